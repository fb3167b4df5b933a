/- Contracts: the drawn arguments of plans. -/
import Derived.Test.YtnefgafmnpblpaaGreatPnE8
namespace Go.Proofs.YtnefgafmnpblpaaGreat
open Go.RowKit Pn

set_option maxRecDepth 100000 in
theorem l16DrawBudget_is (B b N : Nat) (w : World) (h : Src w B b N) (hN : N ≤ 100000) :
    Calls Tryz.prog 40 #[.pointer (some ⟨b, 0, none⟩)] w fun e w' => ∃ x : Int, e = .returned (.int .i64 x) ∧ -1000000 ≤ x ∧ x ≤ 1000000 ∧ Dw B b (N + 4) w w' := by
  have hbl := h.lt
  have HS := hide h
  have HD0 := hide (Dw.start h)
  clear h
  go_enter Tryz.func40, Tryz.ntmps40
  go_wp2_with fail
  refine (srcOne B b N 6 w HS.out (by omega) (by omega)).mono ?_
  rintro e w1 ⟨dd, rfl, hs1, hb1, hg1⟩
  have HD1 := hide (HD0.out.step hs1 hb1 hg1)
  clear hs1 hb1 hg1
  cases dd
  · go_wp2_with fail
    refine (srcPick B b (N + 2) 300 w1 HD1.out.s (by omega) (by omega)).mono ?_
    rintro e w2 ⟨r, rfl, r0, r1, hs2, hb2, hg2⟩
    have hr1 := r1 (by omega)
    have HD2 := hide (HD1.out.step hs2 hb2 hg2)
    clear hs2 hb2 hg2 r1
    go_wp2_with fail
    go_ret
    exact ⟨r + 1, rfl, by omega, by omega, HD2.out⟩
  · have hal : Below w1.heap.size w1 (w1.alloc (.cells #[.int .i64 0, .int .i64 1, .int .i64 4, .int .i64 20000, .int .i64 20001] 2)) := (Below.refl _ _).alloc (Nat.le_refl _) _
    have HX := hide (slat_new (enc := encI) (sz := 1) (fun _ => rfl) w1 [0, 1, 4, 20000, 20001] #[.int .i64 0, .int .i64 1, .int .i64 4, .int .i64 20000, .int .i64 20001] 2 rfl)
    have HD2 := hide (HD1.out.below hal)
    have hz := HD1.out.size
    clear hal
    go_wp2_with fail
    refine (srcamong B b (N + 2) (some ⟨w1.heap.size, 0, none⟩) 5 [0, 1, 4, 20000, 20001] _ HD2.out.s (by omega) HX.out (fun b2 off e => by injection e with e; injection e with e; omega) (by simp) (by simp)).mono ?_
    rintro e w3 ⟨x, rfl, hx, hs3, hb3, hg3⟩
    have HD3 := hide (HD2.out.step hs3 hb3 hg3)
    have hx2 : 0 ≤ x ∧ x ≤ 20001 := by
      simp only [List.mem_cons, List.not_mem_nil, or_false] at hx
      omega
    clear hs3 hb3 hg3 hx
    go_wp2_with fail
    go_ret
    exact ⟨x, rfl, by omega, by omega, HD3.out⟩
/-- Drawn arguments of a search for plans. -/
def PlanArgs (w : World) (e : Ending) (w' : World) : Prop :=
  ∃ (x : Cx) (bud : Int), e = .returned (.tuple #[.agg #[.slice x.Az x.zs.length x.cz, .slice x.Aw x.ws.length x.cw, .slice x.Ab x.bs.length x.cb], .agg #[.string x.nm, .slice x.A x.rs.length x.c], .agg #[.int .i64 x.t0, .int .i64 x.t1, .int .i64 x.t2, .int .i64 x.t3, .int .i64 x.t4, .int .i64 x.tol, .int .i64 x.most], .int .i64 bud]) ∧ x.In w' ∧ x.rs.length ≤ x.c ∧ Below w.heap.size w w'
theorem Src.setR' {w : World} {B b N R : Nat} (h : Src w B b N) (hR : B ≤ R) (hne : R ≠ b) (j : Nat) (v : Value) : Src (w.setCell ⟨R, j, none⟩ v) B b N :=
  h.kept (grown_set (grown_refl _ _) j v) ((Below.refl _ _).setCell hR v) (by simpa using Ne.symm hne)
/-- A source made for bytes below B, in a world of at least B blocks. -/
theorem specl00From_at (B : Nat) (A : Option Addr) (n c : Nat) (w : World) (h : ByAt w B A n) (hn : n ≤ 9223372036854775807) (hB : B ≤ w.heap.size) :
    Calls Tryz.prog 38 #[.slice A n c] w fun e w' => e = .returned (.pointer (some ⟨w.heap.size, 0, none⟩)) ∧ Src w' B w.heap.size 0 ∧ Below w.heap.size w w' := by
  have HX := hide h
  clear h
  go_enter Tryz.func38, Tryz.ntmps38
  go_wp2_with fail
  go_ret
  exact ⟨rfl, ⟨hB, A, n, c, 0, 0, ⟨by go_simp, by go_simp, by go_simp, by go_simp, by go_simp⟩, HX.out.below (by repeat (first | with_reducible exact Below.refl _ _ | with_reducible assumption | (with_reducible refine Below.drew ?_) | (with_reducible refine below_drewN ?_ _) | ((with_reducible refine Below.alloc ?_ ?_ _); rotate_left; (focus (first | omega | (simp; omega) | simp))) | ((with_reducible refine Below.setCell ?_ ?_ _); rotate_left; (focus (first | omega | (simp; omega) | simp))) | (refine Below.trans ?_ (Below.mono (by assumption) (by first | omega | (simp; omega) | simp))))), hn, by omega, by omega⟩, (by repeat (first | with_reducible exact Below.refl _ _ | with_reducible assumption | (with_reducible refine Below.drew ?_) | (with_reducible refine below_drewN ?_ _) | ((with_reducible refine Below.alloc ?_ ?_ _); rotate_left; (focus (first | omega | (simp; omega) | simp))) | ((with_reducible refine Below.setCell ?_ ?_ _); rotate_left; (focus (first | omega | (simp; omega) | simp))) | (refine Below.trans ?_ (Below.mono (by assumption) (by first | omega | (simp; omega) | simp)))))⟩

abbrev MvC (J : Nat) (w : World) (a0 a1 a2 : Value) : Prop := w.cell? ⟨J, 0, none⟩ = some a0 ∧ w.cell? ⟨J, 1, none⟩ = some a1 ∧ w.cell? ⟨J, 2, none⟩ = some a2
abbrev PvC (J : Nat) (w : World) (a0 a1 : Value) : Prop := w.cell? ⟨J, 0, none⟩ = some a0 ∧ w.cell? ⟨J, 1, none⟩ = some a1
abbrev GvC (J : Nat) (w : World) (t0 t1 t2 t3 t4 tol most : Int) : Prop := w.cell? ⟨J, 0, none⟩ = some (.int .i64 t0) ∧ w.cell? ⟨J, 1, none⟩ = some (.int .i64 t1) ∧ w.cell? ⟨J, 2, none⟩ = some (.int .i64 t2) ∧ w.cell? ⟨J, 3, none⟩ = some (.int .i64 t3) ∧ w.cell? ⟨J, 4, none⟩ = some (.int .i64 t4) ∧ w.cell? ⟨J, 5, none⟩ = some (.int .i64 tol) ∧ w.cell? ⟨J, 6, none⟩ = some (.int .i64 most)
/-- The state at the end of a draw of arguments: the locals' blocks. -/
structure DQ (w0 w : World) (J1 J2 J3 : Nat) (nm : ByteArray) (A : Option Addr) (c : Nat) (rs : List RingR) (Az : Option Addr) (cz : Nat) (Aw : Option Addr) (cw : Nat) (Ab : Option Addr) (cb : Nat) (zs : List Int) (ws : List (List Int)) (bs : List Int) (t0 t1 t2 t3 t4 tol most : Int) : Prop where
  bel : Below w0.heap.size w0 w
  m : w.heap[J1]? = some (.cells #[.slice Az zs.length cz, .slice Aw ws.length cw, .slice Ab bs.length cb] 27 (0, 0))
  p : w.heap[J2]? = some (.cells (PCELLS nm A rs.length c) 30 (0, 0))
  g : w.heap[J3]? = some (.cells #[.int .i64 t0, .int .i64 t1, .int .i64 t2, .int .i64 t3, .int .i64 t4, .int .i64 tol, .int .i64 most] 34 (0, 0))
  om : ∃ N1, MdO w (w0.heap.size + 4) N1 Az cz Aw cw Ab cb zs ws bs
  op : OwnR w (w0.heap.size + 4) (.slice A rs.length c) rs
  h1 : w0.heap.size + 4 ≤ J1
  h2 : w0.heap.size + 4 ≤ J2
  h3 : w0.heap.size + 4 ≤ J3
section
variable {w0 w w' : World} {J1 J2 J3 : Nat} {nm : ByteArray} {A : Option Addr} {c : Nat} {rs : List RingR} {Az : Option Addr} {cz : Nat} {Aw : Option Addr} {cw : Nat} {Ab : Option Addr} {cb : Nat} {zs : List Int} {ws : List (List Int)} {bs : List Int} {t0 t1 t2 t3 t4 tol most : Int}
theorem DQ.go {q : Nat} (h : DQ w0 w J1 J2 J3 nm A c rs Az cz Aw cw Ab cb zs ws bs t0 t1 t2 t3 t4 tol most) (hb : Below w0.heap.size w w') (hg : w.grownBy w' (some q)) (hq : q < w0.heap.size + 4) : DQ w0 w' J1 J2 J3 nm A c rs Az cz Aw cw Ab cb zs ws bs t0 t1 t2 t3 t4 tol most := by
  have h1 := h.h1
  have h2 := h.h2
  have h3 := h.h3
  obtain ⟨N1, ho⟩ := h.om
  exact ⟨h.bel.trans hb, (hg.block _ (heap_lt h.m) (fun e => by injection e with e; omega)).trans h.m, (hg.block _ (heap_lt h.p) (fun e => by injection e with e; omega)).trans h.p, (hg.block _ (heap_lt h.g) (fun e => by injection e with e; omega)).trans h.g, ⟨N1, ho.far hq hg⟩, own_farN h.op hq hg, h1, h2, h3⟩
theorem DQ.set {q j : Nat} {v : Value} (h : DQ w0 w J1 J2 J3 nm A c rs Az cz Aw cw Ab cb zs ws bs t0 t1 t2 t3 t4 tol most) (h1 : w0.heap.size ≤ q) (h2 : q < w0.heap.size + 4) : DQ w0 (w.setCell ⟨q, j, none⟩ v) J1 J2 J3 nm A c rs Az cz Aw cw Ab cb zs ws bs t0 t1 t2 t3 t4 tol most :=
  h.go ((Below.refl _ _).setCell h1 v) (grown_set (grown_refl w (some q)) j v) h2
theorem DQ.cells (h : DQ w0 w J1 J2 J3 nm A c rs Az cz Aw cw Ab cb zs ws bs t0 t1 t2 t3 t4 tol most) : MvC J1 w (.slice Az zs.length cz) (.slice Aw ws.length cw) (.slice Ab bs.length cb) ∧ PvC J2 w (.string nm) (.slice A rs.length c) ∧ GvC J3 w t0 t1 t2 t3 t4 tol most := by
  have m := h.m
  have p := h.p
  have g := h.g
  exact ⟨⟨by simp [World.cell?, m], by simp [World.cell?, m], by simp [World.cell?, m]⟩, ⟨by simp [World.cell?, p], by simp [World.cell?, p]⟩, by simp [World.cell?, g], by simp [World.cell?, g], by simp [World.cell?, g], by simp [World.cell?, g], by simp [World.cell?, g], by simp [World.cell?, g], by simp [World.cell?, g]⟩
theorem DQ.args (h : DQ w0 w J1 J2 J3 nm A c rs Az cz Aw cw Ab cb zs ws bs t0 t1 t2 t3 t4 tol most) (hs : MdSz zs ws bs) (hr : rs.length ≤ 40) (hn : nm.size ≤ 100) (bud : Int) : PlanArgs w0 (.returned (.tuple #[.agg #[.slice Az zs.length cz, .slice Aw ws.length cw, .slice Ab bs.length cb], .agg #[.string nm, .slice A rs.length c], .agg #[.int .i64 t0, .int .i64 t1, .int .i64 t2, .int .i64 t3, .int .i64 t4, .int .i64 tol, .int .i64 most], .int .i64 bud])) w := by
  obtain ⟨N1, ho⟩ := h.om
  exact ⟨⟨Az, cz, zs, Aw, cw, ws, Ab, cb, bs, nm, A, c, rs, t0, t1, t2, t3, t4, tol, most⟩, bud, rfl, ⟨ho.md, Own.at_ (enc := encRing) (sz := 3) (fun _ => rfl) h.op, hs, by show rs.length ≤ _; omega, by show nm.size ≤ _; unfold maxLen; omega⟩, (by
    show rs.length ≤ c
    by_cases h0 : 0 < rs.length
    · exact ownR_cap h.op h0
    · omega), h.bel⟩
end
set_option maxRecDepth 100000 in
set_option maxHeartbeats 2000000 in
theorem specDrawFirstPlan_is (A : Option Addr) (n c : Nat) (w : World) (h : ByAt w w.heap.size A n) (hn : n ≤ 9223372036854775807) :
    Calls Tryz.prog 16 #[.slice A n c] w (PlanArgs w) := by
  have HX := hide h
  clear h
  obtain ⟨w1, hw1⟩ : ∃ w1, w1 = ((w.alloc (.cells #[.slice none 0 0, .slice none 0 0, .slice none 0 0] 27)).alloc (.cells (PCELLS ⟨#[]⟩ none 0 0) 30)).alloc (.cells #[.int .i64 0, .int .i64 0, .int .i64 0, .int .i64 0, .int .i64 0, .int .i64 0, .int .i64 0] 34) := ⟨_, rfl⟩
  have hb1 : Below w.heap.size w w1 := by rw [hw1]; exact (by repeat (first | with_reducible exact Below.refl _ _ | with_reducible assumption | (with_reducible refine Below.drew ?_) | (with_reducible refine below_drewN ?_ _) | ((with_reducible refine Below.alloc ?_ ?_ _); rotate_left; (focus (first | omega | (simp; omega) | simp))) | ((with_reducible refine Below.setCell ?_ ?_ _); rotate_left; (focus (first | omega | (simp; omega) | simp))) | (refine Below.trans ?_ (Below.mono (by assumption) (by first | omega | (simp; omega) | simp)))))
  have HRR := hide (show w1.heap[w.heap.size]? = some (.cells #[.slice none 0 0, .slice none 0 0, .slice none 0 0] 27 (0, 0)) ∧ w1.heap[w.heap.size + 1]? = some (.cells (PCELLS ⟨#[]⟩ none 0 0) 30 (0, 0)) ∧ w1.heap[w.heap.size + 2]? = some (.cells #[.int .i64 0, .int .i64 0, .int .i64 0, .int .i64 0, .int .i64 0, .int .i64 0, .int .i64 0] 34 (0, 0)) from by
    have a1 : Below (w.heap.size + 1) (w.alloc (.cells #[.slice none 0 0, .slice none 0 0, .slice none 0 0] 27)) w1 := by rw [hw1]; exact ((Below.refl _ _).alloc (by simp) _).alloc (by simp) _
    have a2 : Below (w.heap.size + 2) ((w.alloc (.cells #[.slice none 0 0, .slice none 0 0, .slice none 0 0] 27)).alloc (.cells (PCELLS ⟨#[]⟩ none 0 0) 30)) w1 := by rw [hw1]; exact (Below.refl _ _).alloc (by simp) _
    refine ⟨(a1.block _ (by omega)).trans (heap_alloc_new w _), (a2.block _ (by omega)).trans ?_, ?_⟩
    · have a := heap_alloc_new (w.alloc (.cells #[.slice none 0 0, .slice none 0 0, .slice none 0 0] 27)) (.cells (PCELLS ⟨#[]⟩ none 0 0) 30)
      simpa using a
    · rw [hw1]
      have a := heap_alloc_new ((w.alloc (.cells #[.slice none 0 0, .slice none 0 0, .slice none 0 0] 27)).alloc (.cells (PCELLS ⟨#[]⟩ none 0 0) 30)) (.cells #[.int .i64 0, .int .i64 0, .int .i64 0, .int .i64 0, .int .i64 0, .int .i64 0, .int .i64 0] 34)
      simpa using a)
  have HZ1 := hide (show w1.heap.size = w.heap.size + 3 by rw [hw1]; simp)
  have HFR := hide (specl00From_at w.heap.size A n c w1 (HX.out.below hb1) hn hb1.size)
  have HB1 := hide hb1
  clear hb1 HX
  go_enter Tryz.func16, Tryz.ntmps16
  go_upto_region 1 with fail
  rw [← hw1]
  clear hw1
  go_wp2_with fail
  refine HFR.out.mono ?_
  rintro e w2 ⟨rfl, hS2, hb2⟩
  have HS2 := hide hS2
  rw [HZ1.out] at HS2 ⊢
  have HB2 := hide (HB1.out.trans (hb2.mono HB1.out.size))
  have HRR2 := hide (show w2.heap[w.heap.size]? = _ ∧ w2.heap[w.heap.size + 1]? = _ ∧ w2.heap[w.heap.size + 2]? = _ from ⟨(hb2.block _ (heap_lt HRR.out.1)).trans HRR.out.1, (hb2.block _ (heap_lt HRR.out.2.1)).trans HRR.out.2.1, (hb2.block _ (heap_lt HRR.out.2.2)).trans HRR.out.2.2⟩)
  have HZ2 := hide HS2.out.lt
  clear hS2 hb2 HFR HRR HB1 HZ1
  go_wp2_with fail
  refine (l10Draw_is w.heap.size (w.heap.size + 3) 0 w2 HS2.out (by omega)).mono ?_
  rintro e w3 ⟨nm, A', c', rs, Az, cz, Aw, cw, Ab, cb, zs, ws, bs, t0, t1, t2, t3, t4, tol, most, rfl, hmo, hro, hsz, hrl, hnm, hd3⟩
  have HSZ := hide hsz
  have HNM := hide hnm
  have HRL := hide hrl
  have hz2 := hd3.gr.size
  have HZ3 := hide (show w.heap.size + 4 ≤ w3.heap.size from by have := HZ2.out; omega)
  obtain ⟨W, hW⟩ : ∃ W, W = ((w3.alloc (.cells #[.slice Az zs.length cz, .slice Aw ws.length cw, .slice Ab bs.length cb] 27)).alloc (.cells (PCELLS nm A' rs.length c') 30)).alloc (.cells #[.int .i64 t0, .int .i64 t1, .int .i64 t2, .int .i64 t3, .int .i64 t4, .int .i64 tol, .int .i64 most] 34) := ⟨_, rfl⟩
  have hbW : Below w3.heap.size w3 W := by rw [hW]; exact (((Below.refl _ _).alloc (Nat.le_refl _) _).alloc (by simp) _).alloc (by simp; omega) _
  have HQ := hide (show DQ w W w3.heap.size (w3.heap.size + 1) (w3.heap.size + 1 + 1) nm A' c' rs Az cz Aw cw Ab cb zs ws bs t0 t1 t2 t3 t4 tol most from by
    have a1 : Below (w3.heap.size + 1) (w3.alloc (.cells #[.slice Az zs.length cz, .slice Aw ws.length cw, .slice Ab bs.length cb] 27)) W := by rw [hW]; exact ((Below.refl _ _).alloc (by simp) _).alloc (by simp) _
    have a2 : Below (w3.heap.size + 2) ((w3.alloc (.cells #[.slice Az zs.length cz, .slice Aw ws.length cw, .slice Ab bs.length cb] 27)).alloc (.cells (PCELLS nm A' rs.length c') 30)) W := by rw [hW]; exact (Below.refl _ _).alloc (by simp) _
    obtain ⟨N1, ho⟩ := hmo
    have h3 := HZ3.out
    refine ⟨(HB2.out.trans hd3.bel).trans (hbW.mono (by omega)), (a1.block _ (by omega)).trans (heap_alloc_new w3 _), (a2.block _ (by omega)).trans ?_, ?_, ⟨N1, (ho.below hbW).mono (by have := HZ2.out; omega)⟩, (hro.below hbW).mono (by have := HZ2.out; omega), by omega, by omega, by omega⟩
    · have a := heap_alloc_new (w3.alloc (.cells #[.slice Az zs.length cz, .slice Aw ws.length cw, .slice Ab bs.length cb] 27)) (.cells (PCELLS nm A' rs.length c') 30)
      simpa using a
    · rw [hW]
      have a := heap_alloc_new ((w3.alloc (.cells #[.slice Az zs.length cz, .slice Aw ws.length cw, .slice Ab bs.length cb] 27)).alloc (.cells (PCELLS nm A' rs.length c') 30)) (.cells #[.int .i64 t0, .int .i64 t1, .int .i64 t2, .int .i64 t3, .int .i64 t4, .int .i64 tol, .int .i64 most] 34)
      simpa using a)
  have HSR := hide (show Src W w.heap.size (w.heap.size + 3) 300 from hd3.s.below hbW)
  have HRW := hide (show W.heap[w.heap.size]? = some (.cells #[.slice none 0 0, .slice none 0 0, .slice none 0 0] 27 (0, 0)) ∧ W.heap[w.heap.size + 1]? = some (.cells (PCELLS ⟨#[]⟩ none 0 0) 30 (0, 0)) ∧ W.heap[w.heap.size + 2]? = some (.cells #[.int .i64 0, .int .i64 0, .int .i64 0, .int .i64 0, .int .i64 0, .int .i64 0, .int .i64 0] 34 (0, 0)) from by
    have k : ∀ j, j < w.heap.size + 3 → W.heap[j]? = w2.heap[j]? := fun j hj => (hbW.block _ (by have := HZ3.out; omega)).trans (hd3.gr.block _ (by have := HZ2.out; omega) (fun e => by injection e with e; omega))
    exact ⟨(k _ (by omega)).trans HRR2.out.1, (k _ (by omega)).trans HRR2.out.2.1, (k _ (by omega)).trans HRR2.out.2.2⟩)
  clear hmo hro hsz hnm hrl hd3 hbW hz2 HB2 HRR2 HZ2 HS2
  go_upto_region 3 with fail
  rw [← hW]
  clear hW
  obtain ⟨J1, hJ1⟩ : ∃ J1, J1 = w3.heap.size := ⟨_, rfl⟩
  obtain ⟨J2, hJ2⟩ : ∃ J2, J2 = w3.heap.size + 1 := ⟨_, rfl⟩
  obtain ⟨J3, hJ3⟩ : ∃ J3, J3 = w3.heap.size + 1 + 1 := ⟨_, rfl⟩
  rw [← hJ3, ← hJ2, ← hJ1] at HQ
  rw [← hJ3, ← hJ2, ← hJ1]
  clear hJ1 hJ2 hJ3 HZ3
  have HQD := hide (DQ.go (w' := W.drew) (q := w.heap.size) HQ.out ((Below.refl _ _).drew) (grown_of_below ((Below.refl W.heap.size W).drew) _) (by omega))
  refine wp_region_noPanic ?_
  refine wp_region_held_drew (S := (fun w' => MvC J1 w' (.slice Az zs.length cz) (.slice Aw ws.length cw) (.slice Ab bs.length cb) ∧ PvC J2 w' (.string nm) (.slice A' rs.length c') ∧ GvC J3 w' t0 t1 t2 t3 t4 tol most)) (by kernel_rfl) (HQD.out.cells) (fun hHeld => ?_)
  refine wpAnyH_take (i := 0) (oi := ?o0_1) (v := ?v0_1) ?hi0_1 ?hs0_1 ?hf0_1 ?hr0_1 (fun _ _ _ h => h) ?hy0_1 (by assumption) ?hh0_1
  case hi0_1 => ((simp only [List.getElem?_toArray, List.getElem?_cons_zero]); rfl)
  case hs0_1 => kernel_rfl
  case hf0_1 => kernel_rfl
  case hr0_1 => kernel_rfl
  case hy0_1 => exact Or.inl ⟨by rfl, by (intro wq hSw; (try dsimp only at hSw); go_simp; (try with_reducible rfl))⟩
  try simp only [Act.put, List.setIfInBounds_toArray, List.set_cons_zero, List.set_cons_succ]
  refine wpAnyH_take (i := 1) (oi := ?o1_2) (v := ?v1_2) ?hi1_2 ?hs1_2 ?hf1_2 ?hr1_2 (fun _ _ _ h => h) ?hy1_2 (by assumption) ?hh1_2
  case hi1_2 => ((simp only [List.getElem?_toArray, List.getElem?_cons_succ, List.getElem?_cons_zero]); rfl)
  case hs1_2 => kernel_rfl
  case hf1_2 => kernel_rfl
  case hr1_2 => kernel_rfl
  case hy1_2 => exact Or.inl ⟨by rfl, by (intro wq hSw; (try dsimp only at hSw); go_simp; (try with_reducible rfl))⟩
  try simp only [Act.put, List.setIfInBounds_toArray, List.set_cons_zero, List.set_cons_succ]
  refine wpAnyH_take (i := 2) (oi := ?o2_3) (v := ?v2_3) ?hi2_3 ?hs2_3 ?hf2_3 ?hr2_3 (fun _ _ _ h => h) ?hy2_3 (by assumption) ?hh2_3
  case hi2_3 => ((simp only [List.getElem?_toArray, List.getElem?_cons_succ, List.getElem?_cons_zero]); rfl)
  case hs2_3 => kernel_rfl
  case hf2_3 => kernel_rfl
  case hr2_3 => kernel_rfl
  case hy2_3 => exact Or.inl ⟨by rfl, by (intro wq hSw; (try dsimp only at hSw); go_simp; (try with_reducible rfl))⟩
  try simp only [Act.put, List.setIfInBounds_toArray, List.set_cons_zero, List.set_cons_succ]
  refine wpAnyH_take (i := 3) (oi := ?o3_4) (v := ?v3_4) ?hi3_4 ?hs3_4 ?hf3_4 ?hr3_4 (fun _ _ _ h => h) ?hy3_4 (by assumption) ?hh3_4
  case hi3_4 => ((simp only [List.getElem?_toArray, List.getElem?_cons_succ, List.getElem?_cons_zero]); rfl)
  case hs3_4 => kernel_rfl
  case hf3_4 => kernel_rfl
  case hr3_4 => kernel_rfl
  case hy3_4 => exact Or.inl ⟨by rfl, by (intro wq hSw; (try dsimp only at hSw); go_simp; (try with_reducible rfl))⟩
  try simp only [Act.put, List.setIfInBounds_toArray, List.set_cons_zero, List.set_cons_succ]
  refine wpAnyH_ready (rs := [4]) (by kernel_rfl) (by simp) ?_
  refine AllReadyH.cons (o := ?o4_5) ?hi4_5 (fun K hK => ?hh4_5) AllReadyH.nil
  case hi4_5 => ((simp only [List.getElem?_toArray, List.getElem?_cons_succ, List.getElem?_cons_zero]); rfl)
  go_simp
  (go_at_call 40; refine (l16DrawBudget_is w.heap.size (w.heap.size + 3) 300 _ (HSR.out.below (Below.refl _ _).drew) (by omega)).mono ?_; rintro e w5 ⟨bud, rfl, _, _, hd5⟩; have HQ5 := hide (DQ.go HQD.out hd5.bel hd5.gr (by omega)); have hR5 := hide (show ∀ j, j < w.heap.size + 3 → w5.heap[j]? = W.heap[j]? from fun j hj => hd5.gr.block _ (by have := hd5.bl; show j < W.heap.size; have := heap_lt HRW.out.2.2; omega) (fun e => by simp at e; omega)); have r1 := (hR5.out _ (by omega)).trans HRW.out.1; have r2 := (hR5.out _ (by omega)).trans HRW.out.2.1; have r3 := (hR5.out _ (by omega)).trans HRW.out.2.2; have x0 : w5.cell? ⟨w.heap.size, 0, none⟩ = some (.slice none 0 0) := (by simp [World.cell?, r1]); have x1 : w5.cell? ⟨w.heap.size, 1, none⟩ = some (.slice none 0 0) := (by simp [World.cell?, r1]); have x2 : w5.cell? ⟨w.heap.size, 2, none⟩ = some (.slice none 0 0) := (by simp [World.cell?, r1]); have y0 : w5.frozen? ⟨w.heap.size, 0, none⟩ = false := (by simp [World.frozen?, r1]); have y1 : w5.frozen? ⟨w.heap.size, 1, none⟩ = false := (by simp [World.frozen?, r1]); have y2 : w5.frozen? ⟨w.heap.size, 2, none⟩ = false := (by simp [World.frozen?, r1]); have x3 : w5.cell? ⟨w.heap.size + 1, 0, none⟩ = some (.string ⟨#[]⟩) := (by simp [World.cell?, r2]); have x4 : w5.cell? ⟨w.heap.size + 1, 1, none⟩ = some (.slice none 0 0) := (by simp [World.cell?, r2]); have y3 : w5.frozen? ⟨w.heap.size + 1, 0, none⟩ = false := (by simp [World.frozen?, r2]); have y4 : w5.frozen? ⟨w.heap.size + 1, 1, none⟩ = false := (by simp [World.frozen?, r2]); have z0 : w5.cell? ⟨w.heap.size + 1 + 1, 0, none⟩ = some (.int .i64 0) := (by simp [World.cell?, r3]); have z1 : w5.cell? ⟨w.heap.size + 1 + 1, 1, none⟩ = some (.int .i64 0) := (by simp [World.cell?, r3]); have z2 : w5.cell? ⟨w.heap.size + 1 + 1, 2, none⟩ = some (.int .i64 0) := (by simp [World.cell?, r3]); have z3 : w5.cell? ⟨w.heap.size + 1 + 1, 3, none⟩ = some (.int .i64 0) := (by simp [World.cell?, r3]); have z4 : w5.cell? ⟨w.heap.size + 1 + 1, 4, none⟩ = some (.int .i64 0) := (by simp [World.cell?, r3]); have z5 : w5.cell? ⟨w.heap.size + 1 + 1, 5, none⟩ = some (.int .i64 0) := (by simp [World.cell?, r3]); have z6 : w5.cell? ⟨w.heap.size + 1 + 1, 6, none⟩ = some (.int .i64 0) := (by simp [World.cell?, r3]); have yf : ∀ j, w5.frozen? ⟨w.heap.size + 1 + 1, j, none⟩ = false := (fun j => by simp [World.frozen?, r3]); have yf0 := yf 0; have yf1 := yf 1; have yf2 := yf 2; have yf3 := yf 3; have yf4 := yf 4; have yf5 := yf 5; have yf6 := yf 6; clear yf r1 r2 r3 hd5)
  (try dsimp only)
  refine hK.out _ _ (HQ5.out.cells) (fun hHeld2 => ?_)
  clear hK K hHeld
  have hHeld := hHeld2
  clear hHeld2
  try simp only [Act.put, List.setIfInBounds_toArray, List.set_cons_zero, List.set_cons_succ]
  refine wpAnyH_ready (rs := [5]) (by kernel_rfl) (by simp) ?_
  refine AllReadyH.cons (o := ?o5_6) ?hi5_6 (fun K hK => ?hh5_6) AllReadyH.nil
  case hi5_6 => ((simp only [List.getElem?_toArray, List.getElem?_cons_succ, List.getElem?_cons_zero]); rfl)
  go_simp
  (have HQ6 := hide (((HQ5.out.set (q := w.heap.size) (j := 0) (v := .slice Az zs.length cz) (by omega) (by omega)).set (q := w.heap.size) (j := 1) (v := .slice Aw ws.length cw) (by omega) (by omega)).set (q := w.heap.size) (j := 2) (v := .slice Ab bs.length cb) (by omega) (by omega)))
  (try dsimp only)
  refine hK.out _ _ (HQ6.out.cells) (fun hHeld2 => ?_)
  clear hK K hHeld
  have hHeld := hHeld2
  clear hHeld2
  try simp only [Act.put, List.setIfInBounds_toArray, List.set_cons_zero, List.set_cons_succ]
  refine wpAnyH_ready (rs := [6]) (by kernel_rfl) (by simp) ?_
  refine AllReadyH.cons (o := ?o6_7) ?hi6_7 (fun K hK => ?hh6_7) AllReadyH.nil
  case hi6_7 => ((simp only [List.getElem?_toArray, List.getElem?_cons_succ, List.getElem?_cons_zero]); rfl)
  go_simp
  (have HQ7 := hide ((HQ6.out.set (q := w.heap.size + 1) (j := 0) (v := .string nm) (by omega) (by omega)).set (q := w.heap.size + 1) (j := 1) (v := .slice A' rs.length c') (by omega) (by omega)))
  (try dsimp only)
  refine hK.out _ _ (HQ7.out.cells) (fun hHeld2 => ?_)
  clear hK K hHeld
  have hHeld := hHeld2
  clear hHeld2
  try simp only [Act.put, List.setIfInBounds_toArray, List.set_cons_zero, List.set_cons_succ]
  refine wpAnyH_ready (rs := [7]) (by kernel_rfl) (by simp) ?_
  refine AllReadyH.cons (o := ?o7_8) ?hi7_8 (fun K hK => ?hh7_8) AllReadyH.nil
  case hi7_8 => ((simp only [List.getElem?_toArray, List.getElem?_cons_succ, List.getElem?_cons_zero]); rfl)
  go_simp
  (have HQ8 := hide (((((((HQ7.out.set (q := w.heap.size + 1 + 1) (j := 0) (v := .int .i64 t0) (by omega) (by omega)).set (q := w.heap.size + 1 + 1) (j := 1) (v := .int .i64 t1) (by omega) (by omega)).set (q := w.heap.size + 1 + 1) (j := 2) (v := .int .i64 t2) (by omega) (by omega)).set (q := w.heap.size + 1 + 1) (j := 3) (v := .int .i64 t3) (by omega) (by omega)).set (q := w.heap.size + 1 + 1) (j := 4) (v := .int .i64 t4) (by omega) (by omega)).set (q := w.heap.size + 1 + 1) (j := 5) (v := .int .i64 tol) (by omega) (by omega)).set (q := w.heap.size + 1 + 1) (j := 6) (v := .int .i64 most) (by omega) (by omega)))
  (try dsimp only)
  refine hK.out _ _ (HQ8.out.cells) (fun hHeld2 => ?_)
  clear hK K hHeld
  have hHeld := hHeld2
  clear hHeld2
  try simp only [Act.put, List.setIfInBounds_toArray, List.set_cons_zero, List.set_cons_succ]
  refine wpAnyH_take (i := 8) (oi := ?o8_9) (v := ?v8_9) ?hi8_9 ?hs8_9 ?hf8_9 ?hr8_9 (fun _ _ _ h => h) ?hy8_9 (by assumption) ?hh8_9
  case hi8_9 => ((simp only [List.getElem?_toArray, List.getElem?_cons_succ, List.getElem?_cons_zero]); rfl)
  case hs8_9 => kernel_rfl
  case hf8_9 => kernel_rfl
  case hr8_9 => kernel_rfl
  case hy8_9 => exact Or.inl ⟨by rfl, by (intro wq hSw; (try dsimp only at hSw); go_simp; (try with_reducible rfl))⟩
  try simp only [Act.put, List.setIfInBounds_toArray, List.set_cons_zero, List.set_cons_succ]
  refine wpAnyH_done (by kernel_rfl) ?_ _
  refine NoPanic.normal ?_
  all_goals
    go_wp2_with fail
    refine bodyPost_ret (v := .tuple #[.agg #[.slice Az zs.length cz, .slice Aw ws.length cw, .slice Ab bs.length cb], .agg #[.string nm, .slice A' rs.length c'], .agg #[.int .i64 t0, .int .i64 t1, .int .i64 t2, .int .i64 t3, .int .i64 t4, .int .i64 tol, .int .i64 most], .int .i64 bud]) (by simp [results, Tryz.results16, go_sem, x0, x1, x2, x3, x4, z0, z1, z2, z3, z4, z5, z6]) rfl ?_
    with_reducible exact DQ.args HQ8.out HSZ.out HRL.out HNM.out bud
set_option maxRecDepth 100000 in
set_option maxHeartbeats 2000000 in
theorem specDrawShortestPlan_is (A : Option Addr) (n c : Nat) (w : World) (h : ByAt w w.heap.size A n) (hn : n ≤ 9223372036854775807) :
    Calls Tryz.prog 9 #[.slice A n c] w (PlanArgs w) := by
  have HX := hide h
  clear h
  obtain ⟨w1, hw1⟩ : ∃ w1, w1 = ((w.alloc (.cells #[.slice none 0 0, .slice none 0 0, .slice none 0 0] 27)).alloc (.cells (PCELLS ⟨#[]⟩ none 0 0) 30)).alloc (.cells #[.int .i64 0, .int .i64 0, .int .i64 0, .int .i64 0, .int .i64 0, .int .i64 0, .int .i64 0] 34) := ⟨_, rfl⟩
  have hb1 : Below w.heap.size w w1 := by rw [hw1]; exact (by repeat (first | with_reducible exact Below.refl _ _ | with_reducible assumption | (with_reducible refine Below.drew ?_) | (with_reducible refine below_drewN ?_ _) | ((with_reducible refine Below.alloc ?_ ?_ _); rotate_left; (focus (first | omega | (simp; omega) | simp))) | ((with_reducible refine Below.setCell ?_ ?_ _); rotate_left; (focus (first | omega | (simp; omega) | simp))) | (refine Below.trans ?_ (Below.mono (by assumption) (by first | omega | (simp; omega) | simp)))))
  have HRR := hide (show w1.heap[w.heap.size]? = some (.cells #[.slice none 0 0, .slice none 0 0, .slice none 0 0] 27 (0, 0)) ∧ w1.heap[w.heap.size + 1]? = some (.cells (PCELLS ⟨#[]⟩ none 0 0) 30 (0, 0)) ∧ w1.heap[w.heap.size + 2]? = some (.cells #[.int .i64 0, .int .i64 0, .int .i64 0, .int .i64 0, .int .i64 0, .int .i64 0, .int .i64 0] 34 (0, 0)) from by
    have a1 : Below (w.heap.size + 1) (w.alloc (.cells #[.slice none 0 0, .slice none 0 0, .slice none 0 0] 27)) w1 := by rw [hw1]; exact ((Below.refl _ _).alloc (by simp) _).alloc (by simp) _
    have a2 : Below (w.heap.size + 2) ((w.alloc (.cells #[.slice none 0 0, .slice none 0 0, .slice none 0 0] 27)).alloc (.cells (PCELLS ⟨#[]⟩ none 0 0) 30)) w1 := by rw [hw1]; exact (Below.refl _ _).alloc (by simp) _
    refine ⟨(a1.block _ (by omega)).trans (heap_alloc_new w _), (a2.block _ (by omega)).trans ?_, ?_⟩
    · have a := heap_alloc_new (w.alloc (.cells #[.slice none 0 0, .slice none 0 0, .slice none 0 0] 27)) (.cells (PCELLS ⟨#[]⟩ none 0 0) 30)
      simpa using a
    · rw [hw1]
      have a := heap_alloc_new ((w.alloc (.cells #[.slice none 0 0, .slice none 0 0, .slice none 0 0] 27)).alloc (.cells (PCELLS ⟨#[]⟩ none 0 0) 30)) (.cells #[.int .i64 0, .int .i64 0, .int .i64 0, .int .i64 0, .int .i64 0, .int .i64 0, .int .i64 0] 34)
      simpa using a)
  have HZ1 := hide (show w1.heap.size = w.heap.size + 3 by rw [hw1]; simp)
  have HFR := hide (specl00From_at w.heap.size A n c w1 (HX.out.below hb1) hn hb1.size)
  have HB1 := hide hb1
  clear hb1 HX
  go_enter Tryz.func9, Tryz.ntmps9
  go_upto_region 1 with fail
  rw [← hw1]
  clear hw1
  go_wp2_with fail
  refine HFR.out.mono ?_
  rintro e w2 ⟨rfl, hS2, hb2⟩
  have HS2 := hide hS2
  rw [HZ1.out] at HS2 ⊢
  have HB2 := hide (HB1.out.trans (hb2.mono HB1.out.size))
  have HRR2 := hide (show w2.heap[w.heap.size]? = _ ∧ w2.heap[w.heap.size + 1]? = _ ∧ w2.heap[w.heap.size + 2]? = _ from ⟨(hb2.block _ (heap_lt HRR.out.1)).trans HRR.out.1, (hb2.block _ (heap_lt HRR.out.2.1)).trans HRR.out.2.1, (hb2.block _ (heap_lt HRR.out.2.2)).trans HRR.out.2.2⟩)
  have HZ2 := hide HS2.out.lt
  clear hS2 hb2 HFR HRR HB1 HZ1
  go_wp2_with fail
  refine (l10Draw_is w.heap.size (w.heap.size + 3) 0 w2 HS2.out (by omega)).mono ?_
  rintro e w3 ⟨nm, A', c', rs, Az, cz, Aw, cw, Ab, cb, zs, ws, bs, t0, t1, t2, t3, t4, tol, most, rfl, hmo, hro, hsz, hrl, hnm, hd3⟩
  have HSZ := hide hsz
  have HNM := hide hnm
  have HRL := hide hrl
  have hz2 := hd3.gr.size
  have HZ3 := hide (show w.heap.size + 4 ≤ w3.heap.size from by have := HZ2.out; omega)
  obtain ⟨W, hW⟩ : ∃ W, W = ((w3.alloc (.cells #[.slice Az zs.length cz, .slice Aw ws.length cw, .slice Ab bs.length cb] 27)).alloc (.cells (PCELLS nm A' rs.length c') 30)).alloc (.cells #[.int .i64 t0, .int .i64 t1, .int .i64 t2, .int .i64 t3, .int .i64 t4, .int .i64 tol, .int .i64 most] 34) := ⟨_, rfl⟩
  have hbW : Below w3.heap.size w3 W := by rw [hW]; exact (((Below.refl _ _).alloc (Nat.le_refl _) _).alloc (by simp) _).alloc (by simp; omega) _
  have HQ := hide (show DQ w W w3.heap.size (w3.heap.size + 1) (w3.heap.size + 1 + 1) nm A' c' rs Az cz Aw cw Ab cb zs ws bs t0 t1 t2 t3 t4 tol most from by
    have a1 : Below (w3.heap.size + 1) (w3.alloc (.cells #[.slice Az zs.length cz, .slice Aw ws.length cw, .slice Ab bs.length cb] 27)) W := by rw [hW]; exact ((Below.refl _ _).alloc (by simp) _).alloc (by simp) _
    have a2 : Below (w3.heap.size + 2) ((w3.alloc (.cells #[.slice Az zs.length cz, .slice Aw ws.length cw, .slice Ab bs.length cb] 27)).alloc (.cells (PCELLS nm A' rs.length c') 30)) W := by rw [hW]; exact (Below.refl _ _).alloc (by simp) _
    obtain ⟨N1, ho⟩ := hmo
    have h3 := HZ3.out
    refine ⟨(HB2.out.trans hd3.bel).trans (hbW.mono (by omega)), (a1.block _ (by omega)).trans (heap_alloc_new w3 _), (a2.block _ (by omega)).trans ?_, ?_, ⟨N1, (ho.below hbW).mono (by have := HZ2.out; omega)⟩, (hro.below hbW).mono (by have := HZ2.out; omega), by omega, by omega, by omega⟩
    · have a := heap_alloc_new (w3.alloc (.cells #[.slice Az zs.length cz, .slice Aw ws.length cw, .slice Ab bs.length cb] 27)) (.cells (PCELLS nm A' rs.length c') 30)
      simpa using a
    · rw [hW]
      have a := heap_alloc_new ((w3.alloc (.cells #[.slice Az zs.length cz, .slice Aw ws.length cw, .slice Ab bs.length cb] 27)).alloc (.cells (PCELLS nm A' rs.length c') 30)) (.cells #[.int .i64 t0, .int .i64 t1, .int .i64 t2, .int .i64 t3, .int .i64 t4, .int .i64 tol, .int .i64 most] 34)
      simpa using a)
  have HSR := hide (show Src W w.heap.size (w.heap.size + 3) 300 from hd3.s.below hbW)
  have HRW := hide (show W.heap[w.heap.size]? = some (.cells #[.slice none 0 0, .slice none 0 0, .slice none 0 0] 27 (0, 0)) ∧ W.heap[w.heap.size + 1]? = some (.cells (PCELLS ⟨#[]⟩ none 0 0) 30 (0, 0)) ∧ W.heap[w.heap.size + 2]? = some (.cells #[.int .i64 0, .int .i64 0, .int .i64 0, .int .i64 0, .int .i64 0, .int .i64 0, .int .i64 0] 34 (0, 0)) from by
    have k : ∀ j, j < w.heap.size + 3 → W.heap[j]? = w2.heap[j]? := fun j hj => (hbW.block _ (by have := HZ3.out; omega)).trans (hd3.gr.block _ (by have := HZ2.out; omega) (fun e => by injection e with e; omega))
    exact ⟨(k _ (by omega)).trans HRR2.out.1, (k _ (by omega)).trans HRR2.out.2.1, (k _ (by omega)).trans HRR2.out.2.2⟩)
  clear hmo hro hsz hnm hrl hd3 hbW hz2 HB2 HRR2 HZ2 HS2
  go_upto_region 3 with fail
  rw [← hW]
  clear hW
  obtain ⟨J1, hJ1⟩ : ∃ J1, J1 = w3.heap.size := ⟨_, rfl⟩
  obtain ⟨J2, hJ2⟩ : ∃ J2, J2 = w3.heap.size + 1 := ⟨_, rfl⟩
  obtain ⟨J3, hJ3⟩ : ∃ J3, J3 = w3.heap.size + 1 + 1 := ⟨_, rfl⟩
  rw [← hJ3, ← hJ2, ← hJ1] at HQ
  rw [← hJ3, ← hJ2, ← hJ1]
  clear hJ1 hJ2 hJ3 HZ3
  have HQD := hide (DQ.go (w' := W.drew) (q := w.heap.size) HQ.out ((Below.refl _ _).drew) (grown_of_below ((Below.refl W.heap.size W).drew) _) (by omega))
  refine wp_region_noPanic ?_
  refine wp_region_held_drew (S := (fun w' => MvC J1 w' (.slice Az zs.length cz) (.slice Aw ws.length cw) (.slice Ab bs.length cb) ∧ PvC J2 w' (.string nm) (.slice A' rs.length c') ∧ GvC J3 w' t0 t1 t2 t3 t4 tol most)) (by kernel_rfl) (HQD.out.cells) (fun hHeld => ?_)
  refine wpAnyH_take (i := 0) (oi := ?o0_10) (v := ?v0_10) ?hi0_10 ?hs0_10 ?hf0_10 ?hr0_10 (fun _ _ _ h => h) ?hy0_10 (by assumption) ?hh0_10
  case hi0_10 => ((simp only [List.getElem?_toArray, List.getElem?_cons_zero]); rfl)
  case hs0_10 => kernel_rfl
  case hf0_10 => kernel_rfl
  case hr0_10 => kernel_rfl
  case hy0_10 => exact Or.inl ⟨by rfl, by (intro wq hSw; (try dsimp only at hSw); go_simp; (try with_reducible rfl))⟩
  try simp only [Act.put, List.setIfInBounds_toArray, List.set_cons_zero, List.set_cons_succ]
  refine wpAnyH_take (i := 1) (oi := ?o1_11) (v := ?v1_11) ?hi1_11 ?hs1_11 ?hf1_11 ?hr1_11 (fun _ _ _ h => h) ?hy1_11 (by assumption) ?hh1_11
  case hi1_11 => ((simp only [List.getElem?_toArray, List.getElem?_cons_succ, List.getElem?_cons_zero]); rfl)
  case hs1_11 => kernel_rfl
  case hf1_11 => kernel_rfl
  case hr1_11 => kernel_rfl
  case hy1_11 => exact Or.inl ⟨by rfl, by (intro wq hSw; (try dsimp only at hSw); go_simp; (try with_reducible rfl))⟩
  try simp only [Act.put, List.setIfInBounds_toArray, List.set_cons_zero, List.set_cons_succ]
  refine wpAnyH_take (i := 2) (oi := ?o2_12) (v := ?v2_12) ?hi2_12 ?hs2_12 ?hf2_12 ?hr2_12 (fun _ _ _ h => h) ?hy2_12 (by assumption) ?hh2_12
  case hi2_12 => ((simp only [List.getElem?_toArray, List.getElem?_cons_succ, List.getElem?_cons_zero]); rfl)
  case hs2_12 => kernel_rfl
  case hf2_12 => kernel_rfl
  case hr2_12 => kernel_rfl
  case hy2_12 => exact Or.inl ⟨by rfl, by (intro wq hSw; (try dsimp only at hSw); go_simp; (try with_reducible rfl))⟩
  try simp only [Act.put, List.setIfInBounds_toArray, List.set_cons_zero, List.set_cons_succ]
  refine wpAnyH_take (i := 3) (oi := ?o3_13) (v := ?v3_13) ?hi3_13 ?hs3_13 ?hf3_13 ?hr3_13 (fun _ _ _ h => h) ?hy3_13 (by assumption) ?hh3_13
  case hi3_13 => ((simp only [List.getElem?_toArray, List.getElem?_cons_succ, List.getElem?_cons_zero]); rfl)
  case hs3_13 => kernel_rfl
  case hf3_13 => kernel_rfl
  case hr3_13 => kernel_rfl
  case hy3_13 => exact Or.inl ⟨by rfl, by (intro wq hSw; (try dsimp only at hSw); go_simp; (try with_reducible rfl))⟩
  try simp only [Act.put, List.setIfInBounds_toArray, List.set_cons_zero, List.set_cons_succ]
  refine wpAnyH_ready (rs := [4]) (by kernel_rfl) (by simp) ?_
  refine AllReadyH.cons (o := ?o4_14) ?hi4_14 (fun K hK => ?hh4_14) AllReadyH.nil
  case hi4_14 => ((simp only [List.getElem?_toArray, List.getElem?_cons_succ, List.getElem?_cons_zero]); rfl)
  go_simp
  (go_at_call 40; refine (l16DrawBudget_is w.heap.size (w.heap.size + 3) 300 _ (HSR.out.below (Below.refl _ _).drew) (by omega)).mono ?_; rintro e w5 ⟨bud, rfl, _, _, hd5⟩; have HQ5 := hide (DQ.go HQD.out hd5.bel hd5.gr (by omega)); have hR5 := hide (show ∀ j, j < w.heap.size + 3 → w5.heap[j]? = W.heap[j]? from fun j hj => hd5.gr.block _ (by have := hd5.bl; show j < W.heap.size; have := heap_lt HRW.out.2.2; omega) (fun e => by simp at e; omega)); have r1 := (hR5.out _ (by omega)).trans HRW.out.1; have r2 := (hR5.out _ (by omega)).trans HRW.out.2.1; have r3 := (hR5.out _ (by omega)).trans HRW.out.2.2; have x0 : w5.cell? ⟨w.heap.size, 0, none⟩ = some (.slice none 0 0) := (by simp [World.cell?, r1]); have x1 : w5.cell? ⟨w.heap.size, 1, none⟩ = some (.slice none 0 0) := (by simp [World.cell?, r1]); have x2 : w5.cell? ⟨w.heap.size, 2, none⟩ = some (.slice none 0 0) := (by simp [World.cell?, r1]); have y0 : w5.frozen? ⟨w.heap.size, 0, none⟩ = false := (by simp [World.frozen?, r1]); have y1 : w5.frozen? ⟨w.heap.size, 1, none⟩ = false := (by simp [World.frozen?, r1]); have y2 : w5.frozen? ⟨w.heap.size, 2, none⟩ = false := (by simp [World.frozen?, r1]); have x3 : w5.cell? ⟨w.heap.size + 1, 0, none⟩ = some (.string ⟨#[]⟩) := (by simp [World.cell?, r2]); have x4 : w5.cell? ⟨w.heap.size + 1, 1, none⟩ = some (.slice none 0 0) := (by simp [World.cell?, r2]); have y3 : w5.frozen? ⟨w.heap.size + 1, 0, none⟩ = false := (by simp [World.frozen?, r2]); have y4 : w5.frozen? ⟨w.heap.size + 1, 1, none⟩ = false := (by simp [World.frozen?, r2]); have z0 : w5.cell? ⟨w.heap.size + 1 + 1, 0, none⟩ = some (.int .i64 0) := (by simp [World.cell?, r3]); have z1 : w5.cell? ⟨w.heap.size + 1 + 1, 1, none⟩ = some (.int .i64 0) := (by simp [World.cell?, r3]); have z2 : w5.cell? ⟨w.heap.size + 1 + 1, 2, none⟩ = some (.int .i64 0) := (by simp [World.cell?, r3]); have z3 : w5.cell? ⟨w.heap.size + 1 + 1, 3, none⟩ = some (.int .i64 0) := (by simp [World.cell?, r3]); have z4 : w5.cell? ⟨w.heap.size + 1 + 1, 4, none⟩ = some (.int .i64 0) := (by simp [World.cell?, r3]); have z5 : w5.cell? ⟨w.heap.size + 1 + 1, 5, none⟩ = some (.int .i64 0) := (by simp [World.cell?, r3]); have z6 : w5.cell? ⟨w.heap.size + 1 + 1, 6, none⟩ = some (.int .i64 0) := (by simp [World.cell?, r3]); have yf : ∀ j, w5.frozen? ⟨w.heap.size + 1 + 1, j, none⟩ = false := (fun j => by simp [World.frozen?, r3]); have yf0 := yf 0; have yf1 := yf 1; have yf2 := yf 2; have yf3 := yf 3; have yf4 := yf 4; have yf5 := yf 5; have yf6 := yf 6; clear yf r1 r2 r3 hd5)
  (try dsimp only)
  refine hK.out _ _ (HQ5.out.cells) (fun hHeld2 => ?_)
  clear hK K hHeld
  have hHeld := hHeld2
  clear hHeld2
  try simp only [Act.put, List.setIfInBounds_toArray, List.set_cons_zero, List.set_cons_succ]
  refine wpAnyH_ready (rs := [5]) (by kernel_rfl) (by simp) ?_
  refine AllReadyH.cons (o := ?o5_15) ?hi5_15 (fun K hK => ?hh5_15) AllReadyH.nil
  case hi5_15 => ((simp only [List.getElem?_toArray, List.getElem?_cons_succ, List.getElem?_cons_zero]); rfl)
  go_simp
  (have HQ6 := hide (((HQ5.out.set (q := w.heap.size) (j := 0) (v := .slice Az zs.length cz) (by omega) (by omega)).set (q := w.heap.size) (j := 1) (v := .slice Aw ws.length cw) (by omega) (by omega)).set (q := w.heap.size) (j := 2) (v := .slice Ab bs.length cb) (by omega) (by omega)))
  (try dsimp only)
  refine hK.out _ _ (HQ6.out.cells) (fun hHeld2 => ?_)
  clear hK K hHeld
  have hHeld := hHeld2
  clear hHeld2
  try simp only [Act.put, List.setIfInBounds_toArray, List.set_cons_zero, List.set_cons_succ]
  refine wpAnyH_ready (rs := [6]) (by kernel_rfl) (by simp) ?_
  refine AllReadyH.cons (o := ?o6_16) ?hi6_16 (fun K hK => ?hh6_16) AllReadyH.nil
  case hi6_16 => ((simp only [List.getElem?_toArray, List.getElem?_cons_succ, List.getElem?_cons_zero]); rfl)
  go_simp
  (have HQ7 := hide ((HQ6.out.set (q := w.heap.size + 1) (j := 0) (v := .string nm) (by omega) (by omega)).set (q := w.heap.size + 1) (j := 1) (v := .slice A' rs.length c') (by omega) (by omega)))
  (try dsimp only)
  refine hK.out _ _ (HQ7.out.cells) (fun hHeld2 => ?_)
  clear hK K hHeld
  have hHeld := hHeld2
  clear hHeld2
  try simp only [Act.put, List.setIfInBounds_toArray, List.set_cons_zero, List.set_cons_succ]
  refine wpAnyH_ready (rs := [7]) (by kernel_rfl) (by simp) ?_
  refine AllReadyH.cons (o := ?o7_17) ?hi7_17 (fun K hK => ?hh7_17) AllReadyH.nil
  case hi7_17 => ((simp only [List.getElem?_toArray, List.getElem?_cons_succ, List.getElem?_cons_zero]); rfl)
  go_simp
  (have HQ8 := hide (((((((HQ7.out.set (q := w.heap.size + 1 + 1) (j := 0) (v := .int .i64 t0) (by omega) (by omega)).set (q := w.heap.size + 1 + 1) (j := 1) (v := .int .i64 t1) (by omega) (by omega)).set (q := w.heap.size + 1 + 1) (j := 2) (v := .int .i64 t2) (by omega) (by omega)).set (q := w.heap.size + 1 + 1) (j := 3) (v := .int .i64 t3) (by omega) (by omega)).set (q := w.heap.size + 1 + 1) (j := 4) (v := .int .i64 t4) (by omega) (by omega)).set (q := w.heap.size + 1 + 1) (j := 5) (v := .int .i64 tol) (by omega) (by omega)).set (q := w.heap.size + 1 + 1) (j := 6) (v := .int .i64 most) (by omega) (by omega)))
  (try dsimp only)
  refine hK.out _ _ (HQ8.out.cells) (fun hHeld2 => ?_)
  clear hK K hHeld
  have hHeld := hHeld2
  clear hHeld2
  try simp only [Act.put, List.setIfInBounds_toArray, List.set_cons_zero, List.set_cons_succ]
  refine wpAnyH_take (i := 8) (oi := ?o8_18) (v := ?v8_18) ?hi8_18 ?hs8_18 ?hf8_18 ?hr8_18 (fun _ _ _ h => h) ?hy8_18 (by assumption) ?hh8_18
  case hi8_18 => ((simp only [List.getElem?_toArray, List.getElem?_cons_succ, List.getElem?_cons_zero]); rfl)
  case hs8_18 => kernel_rfl
  case hf8_18 => kernel_rfl
  case hr8_18 => kernel_rfl
  case hy8_18 => exact Or.inl ⟨by rfl, by (intro wq hSw; (try dsimp only at hSw); go_simp; (try with_reducible rfl))⟩
  try simp only [Act.put, List.setIfInBounds_toArray, List.set_cons_zero, List.set_cons_succ]
  refine wpAnyH_done (by kernel_rfl) ?_ _
  refine NoPanic.normal ?_
  all_goals
    go_wp2_with fail
    refine bodyPost_ret (v := .tuple #[.agg #[.slice Az zs.length cz, .slice Aw ws.length cw, .slice Ab bs.length cb], .agg #[.string nm, .slice A' rs.length c'], .agg #[.int .i64 t0, .int .i64 t1, .int .i64 t2, .int .i64 t3, .int .i64 t4, .int .i64 tol, .int .i64 most], .int .i64 bud]) (by simp [results, Tryz.results9, go_sem, x0, x1, x2, x3, x4, z0, z1, z2, z3, z4, z5, z6]) rfl ?_
    with_reducible exact DQ.args HQ8.out HSZ.out HRL.out HNM.out bud
end Go.Proofs.YtnefgafmnpblpaaGreat
