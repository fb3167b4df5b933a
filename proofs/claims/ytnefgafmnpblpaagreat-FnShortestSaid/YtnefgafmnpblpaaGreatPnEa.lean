/- Contracts: the usual model, a model fitted to a sound. Contracts: a model fitted to a sound. A draw of a model, a profile and a goal under way. -/
import Derived.Test.YtnefgafmnpblpaaGreatPnE4
namespace Go.Proofs.YtnefgafmnpblpaaGreat
open Go.RowKit Pn

/-- Weights of the usual model. -/
structure WtOK (n : Nat) (ws : List (List Int)) : Prop where
  row : ∀ l ∈ ws, l.length = n ∧ ∀ j, j < n → 100 ≤ ig l j ∧ ig l j ≤ 1000
theorem ig_snoc {ys : List Int} {v : Int} {j : Nat} (h : j < (ys ++ [v]).length) : ig (ys ++ [v]) j = if j < ys.length then ig ys j else v := by
  split
  · rw [← ig_eq h, ← ig_eq ‹_›, List.getElem_append_left]
  · have e : j = ys.length := by simp at h; omega
    subst e
    rw [← ig_eq h]; simp
theorem mx_abs (d : Int) : 0 ≤ mx d (-d) ∧ (mx d (-d) = d ∨ mx d (-d) = -d) := by
  unfold mx
  split <;> omega
set_option maxRecDepth 100000 in
set_option maxHeartbeats 1000000 in
theorem specl08Standard (B : Nat) (A : Option Addr) (c : Nat) (zs : List Int) (n : Nat) (w : World) (h : OwnI w B (.slice A zs.length c) zs) (hn : zs.length = n) (h2 : n = 2 ∨ n = 3) :
    Calls Tryz.prog 85 #[.slice A n c] w fun e w' => ∃ ws, ws.length = 5 ∧ WtOK n ws ∧ OwnMdRes zs ws [1000, 1000, 1000, 1000, 1000] w e w' := by
  obtain ⟨w1, hw1⟩ : ∃ w1, w1 = w.alloc (.cells #[.slice none 0 0, .slice none 0 0, .slice none 0 0] 27) := ⟨_, rfl⟩
  have hb1 : Below w.heap.size w w1 := by rw [hw1]; exact (by repeat (first | with_reducible exact Below.refl _ _ | with_reducible assumption | (with_reducible refine Below.drew ?_) | (with_reducible refine below_drewN ?_ _) | ((with_reducible refine Below.alloc ?_ ?_ _); rotate_left; (focus (first | omega | (simp; omega) | simp))) | ((with_reducible refine Below.setCell ?_ ?_ _); rotate_left; (focus (first | omega | (simp; omega) | simp))) | (refine Below.trans ?_ (Below.mono (by assumption) (by first | omega | (simp; omega) | simp)))))
  have s1 : w1.heap[w.heap.size]? = some (.cells #[.slice none 0 0, .slice none 0 0, .slice none 0 0] 27 (0, 0)) := by rw [hw1]; exact heap_alloc_new w _
  have HR1 := hide s1
  have HB1 := hide hb1
  have HC := hide (show Calls Tryz.prog 137 #[.slice A n c] w1 (CopyI zs w1) from by have := specl00Own B A c zs w1 (h.below hb1) (by omega); rw [hn] at this; exact this)
  have HNN := hide hn
  have n2 : 2 ≤ n := by omega
  have n3 : n ≤ 3 := by omega
  clear hb1 s1 h hn
  have H23 := hide h2
  clear h2
  go_enter Tryz.func85, Tryz.ntmps85
  go_upto_region 1 with fail
  rw [← hw1]
  clear hw1
  go_wp2_with fail
  refine HC.out.mono ?_
  rintro e w2 ⟨A1, c1, rfl, ho2, hb2⟩
  have HB2 := hide (HB1.out.trans (hb2.mono HB1.out.size))
  have HR2 := hide ((hb2.block _ (heap_lt HR1.out)).trans HR1.out)
  have hal : Below w2.heap.size w2 (w2.alloc (.cells #[.int .i64 1000, .int .i64 1000, .int .i64 1000, .int .i64 1000, .int .i64 1000] 2)) := (Below.refl _ _).alloc (Nat.le_refl _) _
  have HM0 := hide (mo_new (w := w) (w6 := w2.alloc (.cells #[.int .i64 1000, .int .i64 1000, .int .i64 1000, .int .i64 1000, .int .i64 1000] 2)) (Az := A1) (cz := c1) (zs := zs) (bs := [1000, 1000, 1000, 1000, 1000]) (Ab := some ⟨w2.heap.size, 0, none⟩) (cb := 5) ((hal.block _ (heap_lt HR2.out)).trans HR2.out) (HB2.out.trans (hal.mono HB2.out.size)) ((Own.mono ho2 (heap_lt HR1.out)).below hal) (own5 (heap_lt HR2.out) rfl) (fun k e e2 => by simp [Value.ownBlock] at e2; have := (ho2.lt k e).2; omega))
  clear ho2 hb2 hal HC HR1 HB1 HB2 HR2
  go_upto_region 2 with fail
  obtain ⟨Q, hQ⟩ : ∃ Q, Q = w2.heap.size + 1 := ⟨_, rfl⟩
  have hQ2 : (w2.alloc (.cells #[.int .i64 1000, .int .i64 1000, .int .i64 1000, .int .i64 1000, .int .i64 1000] 2)).heap.size = Q := by rw [hQ]; simp
  rw [hQ2] at HM0
  rw [← hQ]
  clear hQ2 hQ
  generalize (w2.alloc (.cells #[.int .i64 1000, .int .i64 1000, .int .i64 1000, .int .i64 1000, .int .i64 1000] 2)).alloc (.cells #[.slice A1 zs.length c1, .slice none 0 0, .slice (some ⟨w2.heap.size, 0, none⟩) 5 5] 27) = w3 at *
  generalize w2.heap.size = q5 at *
  obtain ⟨N0, hN0⟩ : ∃ N0, N0 = Q + 1 := ⟨_, rfl⟩
  have HM1 := hide (show Mo w w3 Q N0 A1 c1 none 0 (some ⟨q5, 0, none⟩) 5 zs [] [1000, 1000, 1000, 1000, 1000] from by rw [hN0]; exact HM0.out)
  clear HM0 hN0
  go_wp2_with fail
  go_loopw [5, 6, 7, 8, 9] (fun v _ _ _ _ wr => ∃ (k : Nat) (A : Option Addr) (c : Nat) (ls : List (List Int)), v = .int .i64 k ∧ k ≤ 5 ∧ ls.length = k ∧ Hid (WtOK n ls) ∧ Hid (Mo w wr Q N0 A1 c1 A c (some ⟨q5, 0, none⟩) 5 zs ls [1000, 1000, 1000, 1000, 1000])) (fun v _ _ _ _ _ => 5 - (intOf v).toNat)
  case atStart => exact ⟨0, _, _, [], rfl, by omega, rfl, hide ⟨fun l h => by simp at h⟩, HM1⟩
  case round =>
    clear HM1
    obtain ⟨k, A3, c3, ls, rfl, hk, hl, HWT, HM⟩ := hrel
    have HLL := hide hl
    clear hl
    by_cases hlt : k < 5
    · have hki : (k : Int) < 5 := by omega
      have hk0 : (0 : Int) ≤ k := by omega
      have hrw0 := own_made (enc := encI) (sz := 1) (T := 2) wr rfl (Nat.le_refl wr.heap.size)
      have HR0 := hide hrw0
      have HB0 := hide (show Below wr.heap.size wr (wr.alloc (.cells #[] 2)) from (Below.refl _ _).alloc (Nat.le_refl _) _)
      clear hrw0
      obtain ⟨W0, hW0⟩ : ∃ W0, W0 = wr := ⟨_, rfl⟩
      rw [← hW0]
      rw [← hW0] at HM HR0 HB0
      clear hW0
      go_wp2_with fail
      generalize W0.alloc (.cells #[] 2) = w4 at *
      go_loopw [7, 6, 8, 9] (fun v r _ _ wx => ∃ (z : Nat) (Ar : Option Addr) (cr : Nat) (ys : List Int), v = .int .i64 z ∧ r = .slice Ar ys.length cr ∧ z ≤ n ∧ ys.length = z ∧ Hid (∀ j, j < ys.length → 100 ≤ ig ys j ∧ ig ys j ≤ 1000) ∧ Hid (OwnI wx W0.heap.size (.slice Ar ys.length cr) ys) ∧ Hid (Below W0.heap.size W0 wx)) (fun v _ _ _ _ => n - (intOf v).toNat)
      case atStart => exact ⟨0, _, _, [], rfl, rfl, by omega, rfl, hide (fun j h => by simp at h), HR0, HB0⟩
      case round =>
        clear HR0 HB0
        obtain ⟨z, Ar, cr, ys, rfl, rfl, hz, hy, HYB, HY, HBX⟩ := hrel
        have HYL := hide hy
        have hzx := HBX.out.size
        by_cases hlz : z < n
        · have hzi : (z : Int) < n := by omega
          have hz0 : (0 : Int) ≤ z := by omega
          obtain ⟨q, hq⟩ : ∃ q : Int, q = (k : Int) * ((n : Int) - 1) := ⟨_, rfl⟩
          have hqb : 0 ≤ q ∧ q ≤ 8 ∧ q ≤ 4 * ((n : Int) - 1) ∧ 0 ≤ q := by
            rcases H23.out with h | h <;> subst h <;> simp at hq <;> omega
          have kq : IntKind.i64.wrap ((k : Int) * ((n : Int) - 1)) = q := by rw [← hq]; exact IntWalk.i64_in _ (by omega)
          obtain ⟨d, hd⟩ : ∃ d : Int, d = 4 * z - q := ⟨_, rfl⟩
          have kd : IntKind.i64.wrap (4 * (z : Int) - q) = d := by rw [← hd]; exact IntWalk.i64_in _ (by omega)
          have hdb : -(4 * ((n : Int) - 1)) ≤ d ∧ d ≤ 4 * ((n : Int) - 1) := by omega
          have hm := mx_abs d
          have HMX := hide (fun W => specl00Max d (-d) W)
          obtain ⟨m, hmm⟩ : ∃ m, m = mx d (-d) := ⟨_, rfl⟩
          rw [← hmm] at hm HMX
          have hmb : 0 ≤ m ∧ m ≤ 4 * ((n : Int) - 1) := by omega
          have hnr := Pn.nr_bd (a := 900 * m) (b := 4 * ((n : Int) - 1)) (c := 900) (by omega) (by omega) (by omega)
          have HND := hide (fun W => l01Div_any (900 * m) (4 * ((n : Int) - 1)) W (by omega) (by omega) (by omega) (by omega))
          obtain ⟨r, hr⟩ : ∃ r, r = Pl.nr (900 * m) (4 * ((n : Int) - 1)) := ⟨_, rfl⟩
          rw [← hr] at hnr HND
          have hdd : -8 ≤ d ∧ d ≤ 8 := by omega
          have kdn : IntKind.i64.wrap (-d) = -d := IntWalk.i64_in _ (by omega)
          have hmb2 : m ≤ 8 := by omega
          have hmb3 : 0 ≤ m := by omega
          have km : IntKind.i64.wrap (900 * m) = 900 * m := IntWalk.i64_in _ (by omega)
          have kn4 : IntKind.i64.wrap (4 * ((n : Int) - 1)) = 4 * ((n : Int) - 1) := IntWalk.i64_in _ (by omega)
          have kn1 : IntKind.i64.wrap ((n : Int) - 1) = (n : Int) - 1 := IntWalk.i64_in _ (by omega)
          clear hr hmm hd hq hm hmb hdb hdd hy
          go_wp2_with fail
          refine (HMX.out _).mono ?_
          rintro e w5 ⟨rfl, rfl⟩
          go_wp2_with fail
          refine (HND.out _).mono ?_
          rintro e w5 ⟨rfl, rfl⟩
          go_wp2_with (at_builtin; refine wpList_appI_at rfl _ _ rfl W0.heap.size rfl HY.out rfl (by have := HYL.out; omega) (by omega) ?_; intro A6 c6 w6 ho6 hb6 _ _; have HY6 := hide ho6; have HB6 := hide (HBX.out.trans hb6); clear ho6 hb6)
          go_roundw
          case rel => exact ⟨z + 1, A6, c6, ys ++ [1000 - r], by go_num, by simp, by omega, by simp [HYL.out], hide (fun j hj => by
            rw [ig_snoc hj]
            split
            · exact HYB.out j ‹_›
            · omega), hide (by simpa using HY6.out), HB6⟩
          case measure => simp [intOf]; omega
        · obtain rfl : z = n := by omega
          obtain ⟨vs, N3, hlv⟩ := HM.out.m.g
          have HG := hide (LL.below (LL.fit hlv) HBX.out)
          have HMX := hide (HM.out.below HBX.out)
          have HO := hide (Own.mono HY.out HM.out.hz)
          have HAP := hide (show ∀ j, (Value.slice Ar ys.length cr).ownBlock = some j → W0.heap.size ≤ j from fun j e => (HY.out.lt j e).1)
          have HW2 := hide (show WtOK z (ls ++ [ys]) from ⟨fun l h => by
            rw [List.mem_append] at h
            rcases h with h | h
            · exact HWT.out.row l h
            · simp at h
              subst h
              exact ⟨HYL.out, fun j hj => HYB.out j (by rw [HYL.out]; exact hj)⟩⟩)
          obtain ⟨_, d1, _, df⟩ := HMX.out.cells
          have f1 := df 1
          have hql := heap_lt HMX.out.q
          clear hlv df hy
          go_wp2_with (at_builtin; refine wpList_appRow rfl _ _ rfl N0 W0.heap.size rfl HG.out HO.out HAP.out rfl (by have := HLL.out; omega) (by have := HMX.out.hz; omega) ?_; intro A6 c6 w6 hl6 hb6 _; have HP := hide (Mo.push HMX.out hb6 hl6); have cB := (hb6.cell (p := ⟨Q, 1, none⟩) HMX.out.hN).trans d1; have fB := (hb6.frozen (p := ⟨Q, 1, none⟩) HMX.out.hN).trans f1; clear hl6 hb6)
          go_roundw
          case rel => exact ⟨k + 1, A6, c6, ls ++ [ys], by go_num, by omega, by simp [HLL.out], HW2, HP⟩
          case measure => simp [intOf]; omega
    · obtain rfl : k = 5 := by omega
      obtain ⟨c0, c1, c2, _⟩ := HM.out.cells
      obtain ⟨r0, r1, r2, rf⟩ := HM.out.rcells
      have rf0 := rf 0
      have rf1 := rf 1
      have rf2 := rf 2
      have HF := hide (fun a0 a1 a2 => HM.out.fin a0 a1 a2)
      have HZ := hide HM.out.hz
      clear rf
      go_wp2_with fail
      refine bodyPost_ret (v := .agg #[.slice A1 zs.length _, .slice A3 ls.length c3, .slice (some ⟨q5, 0, none⟩) 5 5]) (by simp [results, Tryz.results85, go_sem, r0, r1, r2]) rfl ⟨ls, HLL.out, HWT.out, _, _, _, _, _, _, N0, rfl, (HF.out _ _ _).1, by simpa using HZ.out, (HF.out _ _ _).2⟩
end Go.Proofs.YtnefgafmnpblpaaGreat
namespace Go.Proofs.YtnefgafmnpblpaaGreat
open Go.RowKit Pn

/-- A model in a local whose base is written. -/
structure Mf (w0 w : World) (Q N gb : Nat) (Az : Option Addr) (cz : Nat) (Aw : Option Addr) (cw : Nat) (cb : Nat) (zs : List Int) (ws : List (List Int)) (bs : List Int) : Prop where
  r : w.heap[w0.heap.size]? = some (.cells #[.slice none 0 0, .slice none 0 0, .slice none 0 0] 27 (0, 0))
  q : w.heap[Q]? = some (.cells #[.slice Az zs.length cz, .slice Aw ws.length cw, .slice (some ⟨gb, 0, none⟩) bs.length cb] 27 (0, 0))
  m : MdO w (w0.heap.size + 1) N Az cz Aw cw (some ⟨gb, 0, none⟩) cb zs ws bs
  bel : Below w0.heap.size w0 w
  hQ : w0.heap.size < Q
  hN : N ≤ Q
section
variable {w0 w w' : World} {Q N gb : Nat} {Az : Option Addr} {cz : Nat} {Aw : Option Addr} {cw : Nat} {cb : Nat} {zs : List Int} {ws : List (List Int)} {bs : List Int}
theorem Mf.below (h : Mf w0 w Q N gb Az cz Aw cw cb zs ws bs) (hb : Below w.heap.size w w') : Mf w0 w' Q N gb Az cz Aw cw cb zs ws bs :=
  ⟨(hb.block _ (heap_lt h.r)).trans h.r, (hb.block _ (heap_lt h.q)).trans h.q, h.m.below hb, h.bel.trans (hb.mono h.bel.size), h.hQ, h.hN⟩
theorem Mf.cells (h : Mf w0 w Q N gb Az cz Aw cw cb zs ws bs) : w.cell? ⟨Q, 0, none⟩ = some (.slice Az zs.length cz) ∧ w.cell? ⟨Q, 1, none⟩ = some (.slice Aw ws.length cw) ∧ w.cell? ⟨Q, 2, none⟩ = some (.slice (some ⟨gb, 0, none⟩) bs.length cb) ∧ (∀ j, w.frozen? ⟨Q, j, none⟩ = false) := by
  have a := h.q
  exact ⟨by simp [World.cell?, a], by simp [World.cell?, a], by simp [World.cell?, a], fun j => by simp [World.frozen?, a]⟩
theorem Mf.rcells (h : Mf w0 w Q N gb Az cz Aw cw cb zs ws bs) : w.cell? ⟨w0.heap.size, 0, none⟩ = some (.slice none 0 0) ∧ w.cell? ⟨w0.heap.size, 1, none⟩ = some (.slice none 0 0) ∧ w.cell? ⟨w0.heap.size, 2, none⟩ = some (.slice none 0 0) ∧ (∀ j, w.frozen? ⟨w0.heap.size, j, none⟩ = false) := by
  have a := h.r
  exact ⟨by simp [World.cell?, a], by simp [World.cell?, a], by simp [World.cell?, a], fun j => by simp [World.frozen?, a]⟩
theorem Mf.gbd (h : Mf w0 w Q N gb Az cz Aw cw cb zs ws bs) : w0.heap.size < gb ∧ gb < Q := by
  have a := (h.m.b.lt gb rfl).1
  have b := h.m.bN gb rfl
  have := h.hN
  omega
theorem Mf.set (h : Mf w0 w Q N gb Az cz Aw cw cb zs ws bs) (k : Nat) (v : Int) : Mf w0 (w.setCell ⟨gb, k, none⟩ (.int .i64 v)) Q N gb Az cz Aw cw cb zs ws (bs.set k v) := by
  have hg := h.gbd
  exact ⟨(heap_other (by omega)).trans h.r, (heap_other (by omega)).trans (by rw [List.length_set]; exact h.q), h.m.set v, h.bel.setCell (show w0.heap.size ≤ gb by omega) _, h.hQ, h.hN⟩
theorem Mf.fin (h : Mf w0 w Q N gb Az cz Aw cw cb zs ws bs) (a0 a1 a2 : Value) : MdO (((w.setCell ⟨w0.heap.size, 0, none⟩ a0).setCell ⟨w0.heap.size, 1, none⟩ a1).setCell ⟨w0.heap.size, 2, none⟩ a2) w0.heap.size N Az cz Aw cw (some ⟨gb, 0, none⟩) cb zs ws bs ∧ Below w0.heap.size w0 (((w.setCell ⟨w0.heap.size, 0, none⟩ a0).setCell ⟨w0.heap.size, 1, none⟩ a1).setCell ⟨w0.heap.size, 2, none⟩ a2) := by
  refine ⟨MdO.mono (B := w0.heap.size + 1) ?_ (by omega), ((h.bel.setCell (Nat.le_refl _) _).setCell (Nat.le_refl _) _).setCell (Nat.le_refl _) _⟩
  exact ((h.m.far (by omega) (grown_set (grown_refl w (some w0.heap.size)) 0 a0)).far (by omega) (grown_set (grown_refl _ (some w0.heap.size)) 1 a1)).far (by omega) (grown_set (grown_refl _ (some w0.heap.size)) 2 a2)
/-- A row of its own, made behind the model. -/
theorem Mf.keep {N2 : Nat} {T : TypeId} {α : Type} {enc : α → List Value} {sz : Nat} {v : Value} {xs : List α} (h : Mf w0 w Q N gb Az cz Aw cw cb zs ws bs) (ho : Own enc sz T w N2 v xs) (hN : Q ≤ N2) (k : Nat) (x : Value) : Own enc sz T (w.setCell ⟨gb, k, none⟩ x) N2 v xs :=
  own_farN ho (show gb < N2 by have := h.gbd; omega) (grown_set (grown_refl w (some gb)) k x)
end
/-- A fitted model, or none. -/
def FitRes (zs : List Int) (ws : List (List Int)) (w : World) (e : Ending) (w' : World) : Prop :=
  (∃ (Az : Option Addr) (cz : Nat) (Aw : Option Addr) (cw : Nat) (Ab : Option Addr) (cb : Nat) (N : Nat) (bs : List Int), e = .returned (.tuple #[.agg #[.slice Az zs.length cz, .slice Aw ws.length cw, .slice Ab bs.length cb], .bool true]) ∧ bs.length = 5 ∧ (∀ k, k < 5 → 1 ≤ ig bs k ∧ ig bs k ≤ 1000000000) ∧ MdO w' w.heap.size N Az cz Aw cw Ab cb zs ws bs ∧ Below w.heap.size w w') ∨
  (e = .returned (.tuple #[.agg #[.slice none 0 0, .slice none 0 0, .slice none 0 0], .bool false]) ∧ Below w.heap.size w w')
set_option maxRecDepth 100000 in
set_option maxHeartbeats 1000000 in
theorem specl08Fit (bm bp bt B N : Nat) (Az : Option Addr) (cz : Nat) (Aw : Option Addr) (cw : Nat) (Ab : Option Addr) (cb : Nat) (zs : List Int) (ws : List (List Int)) (bs : List Int) (nm : ByteArray) (A : Option Addr) (c : Nat) (rs : List RingR) (t0 t1 t2 t3 t4 : Int) (w : World) (hm : MpAt w bm Az cz Aw cw Ab cb zs ws bs) (ho : MdO w B N Az cz Aw cw Ab cb zs ws bs) (hp : ProfAt w bp nm A c rs) (ht : w.heap[bt]? = some (.cells #[.int .i64 t0, .int .i64 t1, .int .i64 t2, .int .i64 t3, .int .i64 t4] 32 (0, 0)))
    (HM : Hid (ModelOK zs ws bs)) (HZO : Hid (ZonesOK zs rs.length)) (HW : Hid (WallOK rs)) (hn : rs.length ≤ 32) (h0 : 0 < rs.length) (HT : Hid (∀ j, 0 ≤ ig [t0, t1, t2, t3, t4] j ∧ ig [t0, t1, t2, t3, t4] j ≤ 20200000)) :
    Calls Tryz.prog 87 #[.pointer (some ⟨bm, 0, none⟩), .pointer (some ⟨bp, 0, none⟩), .pointer (some ⟨bt, 0, none⟩)] w (FitRes zs ws w) := by
  obtain ⟨w1, hw1⟩ : ∃ w1, w1 = w.alloc (.cells #[.slice none 0 0, .slice none 0 0, .slice none 0 0] 27) := ⟨_, rfl⟩
  have hb1 : Below w.heap.size w w1 := by rw [hw1]; exact (by repeat (first | with_reducible exact Below.refl _ _ | with_reducible assumption | (with_reducible refine Below.drew ?_) | (with_reducible refine below_drewN ?_ _) | ((with_reducible refine Below.alloc ?_ ?_ _); rotate_left; (focus (first | omega | (simp; omega) | simp))) | ((with_reducible refine Below.setCell ?_ ?_ _); rotate_left; (focus (first | omega | (simp; omega) | simp))) | (refine Below.trans ?_ (Below.mono (by assumption) (by first | omega | (simp; omega) | simp)))))
  have s1 : w1.heap[w.heap.size]? = some (.cells #[.slice none 0 0, .slice none 0 0, .slice none 0 0] 27 (0, 0)) := by rw [hw1]; exact heap_alloc_new w _
  have HR1 := hide s1
  have HB1 := hide hb1
  have HM0 := hide hm
  have HP0 := hide hp
  have HB5 := hide HM.out.blen
  have HZ8 := hide HM.out.zones.len8
  have HCO := hide (specl08Own bm B N Az cz Aw cw Ab cb zs ws bs w1 (hm.below hb1) (ho.below hb1) HM.out.zones.len8 HM.out.wlen (hide HM.out.blen) (hide (fun l hl => by
    obtain ⟨k, hk, rfl⟩ := List.mem_iff_getElem.1 hl
    have h5 : k < 5 := by have := HM.out.wlen; omega
    have := HM.out.row k h5
    rw [List.getD_eq_getElem?_getD, List.getElem?_eq_getElem hk] at this
    have h8 := HM.out.zones.len8
    simp at this
    omega)))
  have HCL := hide (fun W (hb : Below w.heap.size w W) => by
    have s := (hb.block _ (heap_lt ht)).trans ht
    exact l04List_is bt 0 t0 t1 t2 t3 t4 W (by simp [World.cell?, s]) (by simp [World.cell?, s]) (by simp [World.cell?, s]) (by simp [World.cell?, s]) (by simp [World.cell?, s]))
  have HCW := hide (fun W (hb : Below w.heap.size w W) => specl08Walls bp nm A c rs Az cz zs W (hp.below hb) (hm.md.z.below hb) hn h0 HZO HW)
  have HCA := hide (fun W (hb : Below w.heap.size w W) => specl08Area bp nm A c rs W (hp.below hb) h0 HW)
  have HAR := hide (area_bd HW.out h0)
  have H0 := hide h0
  clear hb1 s1 hm hp ho ht hn h0
  go_enter Tryz.func87, Tryz.ntmps87
  go_upto_region 1 with fail
  rw [← hw1]
  clear hw1
  go_wp2_with fail
  refine HCO.out.mono ?_
  rintro e w2 ⟨A1, e1, A2, e2, A3, e3, N2, rfl, hmo, hn2, hb2⟩
  obtain ⟨gb, rfl, _⟩ := own_get1 (k := 0) hmo.b (by rw [HB5.out]; omega)
  have hal : Below w2.heap.size w2 (w2.alloc (.cells #[.slice A1 zs.length e1, .slice A2 ws.length e2, .slice (some ⟨gb, 0, none⟩) bs.length e3] 27)) := (Below.refl _ _).alloc (Nat.le_refl _) _
  have HR2 := hide ((hb2.block _ (heap_lt HR1.out)).trans HR1.out)
  have HMF := hide (show Mf w (w2.alloc (.cells #[.slice A1 zs.length e1, .slice A2 ws.length e2, .slice (some ⟨gb, 0, none⟩) bs.length e3] 27)) w2.heap.size N2 gb A1 e1 A2 e2 e3 zs ws bs from ⟨(hal.block _ (heap_lt HR2.out)).trans HR2.out, heap_alloc_new w2 _, (hmo.below hal).mono (heap_lt HR1.out), (HB1.out.trans (hb2.mono HB1.out.size)).trans (hal.mono (by have := HB1.out.size; have := hb2.size; omega)), heap_lt HR2.out, hn2⟩)
  clear hmo hn2 hb2 hal HCO HR1 HB1 HR2
  go_upto_region 2 with fail
  obtain ⟨Q, hQ⟩ : ∃ Q, Q = w2.heap.size := ⟨_, rfl⟩
  rw [← hQ] at HMF ⊢
  clear hQ
  generalize w2.alloc (.cells #[.slice A1 zs.length e1, .slice A2 ws.length e2, .slice (some ⟨gb, 0, none⟩) bs.length e3] 27) = w3 at *
  have b3 := HMF.out.bel
  have m0 := (HM0.out.below b3).c0
  have ml : bm < w3.heap.size := Nat.lt_of_lt_of_le HM0.out.lt b3.size
  go_wp2_with fail
  refine (HCW.out w3 b3).mono ?_
  rintro e w4 ⟨A4, e4, rfl, ho4, hb4⟩
  rw [walls_length] at ho4 ⊢
  have HM4 := hide (HMF.out.below hb4)
  have HO4 := hide (Own.mono (B' := Q + 1) ho4 (heap_lt HMF.out.q))
  clear b3 m0 ml ho4 hb4 HMF HCW
  go_wp2_with fail
  refine (HCL.out w4 HM4.out.bel).mono ?_
  rintro e w5 ⟨gl, rfl, ho5, hb5⟩
  have HM5 := hide (HM4.out.below hb5)
  have HW5 := hide (HO4.out.below hb5)
  have HL5 := hide (Own.mono (B' := Q + 1) ho5 (heap_lt HM4.out.q))
  clear ho5 hb5 HM4 HO4 HCL
  go_wp2_with fail
  have HCM := hide (fun W (hb : Below w.heap.size w W) (hw : SlAt encI 1 W A4 (walls zs rs)) (k : Nat) (hk : k < 5) => specl08Moment bm Az Aw Ab cz cw cb zs ws bs A4 e4 (walls zs rs) k W (HM0.out.below hb) hw HM (walls_length zs rs) (hide (walls_bd HZO.out HW.out)) hk)
  have HMB := hide (fun (k : Nat) (hk : k < 5) => momL_bd HM.out HZO.out HW.out (k := k) hk)
  have HLW := hide (walls_length zs rs)
  go_loopw [11, 12] (fun v _ wr => ∃ (k : Nat) (ys : List Int), v = .int .i64 k ∧ k ≤ 5 ∧ ys.length = 5 ∧ Hid (∀ j, j < k → 1 ≤ ig ys j ∧ ig ys j ≤ 1000000000) ∧ Hid (Mf w wr Q N2 gb A1 e1 A2 e2 e3 zs ws ys) ∧ Hid (OwnI wr (Q + 1) (.slice A4 zs.length e4) (walls zs rs)) ∧ Hid (OwnI wr (Q + 1) (.slice (some ⟨gl, 0, none⟩) 5 5) [t0, t1, t2, t3, t4])) (fun v _ _ => 5 - (intOf v).toNat)
  case atStart => exact ⟨0, bs, rfl, by omega, HB5.out, hide (fun j h => by omega), HM5, HW5, HL5⟩
  case round =>
    clear HM5 HW5 HL5
    obtain ⟨k, ys, rfl, hk, hy, HYB, HMR, HWR, HLR⟩ := hrel
    have HYL := hide hy
    clear hy
    by_cases hlt : k < 5
    · have hki : (k : Int) < 5 := by omega
      have hk0 : (0 : Int) ≤ k := by omega
      have HCK := hide (HCM.out wr HMR.out.bel (OwnI.sl HWR.out HLW.out.symm) k hlt)
      have hyb := HMB.out k hlt
      generalize mom (wr_ ws k) (walls zs rs) zs.length = y at *
      go_wp2_with fail
      refine HCK.out.mono ?_
      rintro e w6 ⟨rfl, hb6⟩
      have HM6 := hide (HMR.out.below hb6)
      have HW6 := hide (HWR.out.below hb6)
      have HL6 := hide (HLR.out.below hb6)
      clear hb6 HMR HWR HLR HCK
      by_cases hy0 : y = 0
      · have hyt : (y == 0) = true := by simpa using hy0
        clear hy0 hyb
        obtain ⟨r0, r1, r2, rf⟩ := HM6.out.rcells
        have rf0 := rf 0
        have rf1 := rf 1
        have rf2 := rf 2
        have HBL := hide HM6.out.bel
        clear rf
        go_wp2_with fail
        refine bodyPost_ret (v := .tuple #[.agg #[.slice none 0 0, .slice none 0 0, .slice none 0 0], .bool false]) (by simp [results, Tryz.results87, go_sem, r0, r1, r2]) rfl (.inr ⟨rfl, ?_⟩)
        exact ((HBL.out.setCell (Nat.le_refl _) _).setCell (Nat.le_refl _) _).setCell (Nat.le_refl _) _
      · have hyt : (y == 0) = false := by simpa using hy0
        have hy1 : 1 ≤ y := by omega
        have hy2 := hyb.2
        clear hy0 hyb
        obtain ⟨_, hgl, g1, g2, cx, _⟩ := own_get1 (k := k) HL6.out (by simpa using hlt)
        injection hgl with hgl; injection hgl with hgl
        subst hgl
        obtain ⟨_, hgb, h1, h2, cy, fy⟩ := own_get1 (k := k) HM6.out.m.b (by rw [HYL.out]; exact hlt)
        injection hgb with hgb; injection hgb with hgb
        subst hgb
        obtain ⟨_, _, c2, _⟩ := HM6.out.cells
        rw [HYL.out] at c2
        have hgbd := HM6.out.gbd
        have hx := HT.out k
        have HAC := hide (fun W (hb : Below w.heap.size w W) => HCA.out W hb)
        have har := HAR.out
        obtain ⟨ar, har2⟩ : ∃ ar, ar = area rs := ⟨_, rfl⟩
        rw [← har2] at har HAC
        obtain ⟨x, hx2⟩ : ∃ x, x = ig [t0, t1, t2, t3, t4] k := ⟨_, rfl⟩
        rw [← hx2] at hx cx
        clear hx2 har2
        have hxa := Int.mul_nonneg hx.1 (show (0 : Int) ≤ ar by omega)
        have hxb : x * ar ≤ 20200000 * 90000 := Int.mul_le_mul hx.2 har.2 (by omega) (by omega)
        have kxa : IntKind.i64.wrap (x * ar) = x * ar := IntWalk.i64_in _ (by omega)
        have HND := hide (fun W => l01Div_any (x * ar) y W (by omega) (by omega) hy1 (by omega))
        obtain ⟨d, hd⟩ : ∃ d, d = Pl.nr (x * ar) y := ⟨_, rfl⟩
        rw [← hd] at HND
        clear hd hxa hxb
        have HBE := hide HM6.out.bel
        have c2 : w6.drew.cell? ⟨Q, 2, none⟩ = some (.slice (some ⟨gb, 0, none⟩) 5 e3) := c2
        have cx : w6.drew.cell? ⟨gl, k, none⟩ = some (.int .i64 x) := cx
        have cy : w6.drew.cell? ⟨gb, k, none⟩ = some (.int .i64 (ig ys k)) := cy
        have fy : w6.drew.frozen? ⟨gb, k, none⟩ = false := fy
        have HMD := hide (HM6.out.below ((Below.refl w6.heap.size w6).drew))
        have HWD := hide (HW6.out.below ((Below.refl w6.heap.size w6).drew))
        have HLD := hide (HL6.out.below ((Below.refl w6.heap.size w6).drew))
        have HBD := hide (show Below w.heap.size w w6.drew from HBE.out.drew)
        have HSV := hide (fun v : Value => show (w6.drew.setCell ⟨gb, k, none⟩ v).cell? ⟨Q, 2, none⟩ = some (.slice (some ⟨gb, 0, none⟩) 5 e3) ∧ (w6.drew.setCell ⟨gb, k, none⟩ v).cell? ⟨gl, k, none⟩ = some (.int .i64 x) from ⟨((grown_set (grown_refl w6.drew (some gb)) k v).cell_far ⟨Q, 2, none⟩ (heap_lt HMD.out.q) (fun e => by simp at e; omega)).trans c2, ((grown_set (grown_refl w6.drew (some gb)) k v).cell_far ⟨gl, k, none⟩ g2 (fun e => by simp at e; omega)).trans cx⟩)
        clear HM6 HW6 HL6
        go_upto_region 10 with fail
        refine wp_region_noPanic ?_
        refine wp_region_held_drew (S := (fun w' => w'.cell? ⟨Q, 2, none⟩ = some (.slice (some ⟨gb, 0, none⟩) 5 e3) ∧ w'.cell? ⟨gl, k, none⟩ = some (.int .i64 x))) (by kernel_rfl) (⟨c2, cx⟩) (fun hHeld => ?_)
        refine wpAnyH_take (i := 0) (oi := ?o0_1) (v := ?v0_1) ?hi0_1 ?hs0_1 ?hf0_1 ?hr0_1 (fun _ _ _ h => h) ?hy0_1 (by assumption) ?hh0_1
        case hi0_1 => ((simp only [List.getElem?_toArray, List.getElem?_cons_zero]); rfl)
        case hs0_1 => kernel_rfl
        case hf0_1 => kernel_rfl
        case hr0_1 => kernel_rfl
        case hy0_1 => exact Or.inl ⟨by rfl, by (intro wq hSw; (try dsimp only at hSw); go_simp; (try with_reducible rfl))⟩
        try simp only [Act.put, List.setIfInBounds_toArray, List.set_cons_zero, List.set_cons_succ]
        refine wpAnyH_take (i := 1) (oi := ?o1_2) (v := ?v1_2) ?hi1_2 ?hs1_2 ?hf1_2 ?hr1_2 (fun _ _ _ h => h) ?hy1_2 (by assumption) ?hh1_2
        case hi1_2 => ((simp only [List.getElem?_toArray, List.getElem?_cons_succ, List.getElem?_cons_zero]); rfl)
        case hs1_2 => kernel_rfl
        case hf1_2 => kernel_rfl
        case hr1_2 => kernel_rfl
        case hy1_2 => exact Or.inl ⟨by rfl, by (intro wq hSw; (try dsimp only at hSw); go_simp; (try with_reducible rfl))⟩
        try simp only [Act.put, List.setIfInBounds_toArray, List.set_cons_zero, List.set_cons_succ]
        refine wpAnyH_take (i := 2) (oi := ?o2_3) (v := ?v2_3) ?hi2_3 ?hs2_3 ?hf2_3 ?hr2_3 (fun _ _ _ h => h) ?hy2_3 (by assumption) ?hh2_3
        case hi2_3 => ((simp only [List.getElem?_toArray, List.getElem?_cons_succ, List.getElem?_cons_zero]); rfl)
        case hs2_3 => kernel_rfl
        case hf2_3 => kernel_rfl
        case hr2_3 => kernel_rfl
        case hy2_3 => exact Or.inl ⟨by rfl, by (intro wq hSw; (try dsimp only at hSw); go_simp; (try with_reducible rfl))⟩
        try simp only [Act.put, List.setIfInBounds_toArray, List.set_cons_zero, List.set_cons_succ]
        refine wpAnyH_take (i := 3) (oi := ?o3_4) (v := ?v3_4) ?hi3_4 ?hs3_4 ?hf3_4 ?hr3_4 (fun _ _ _ h => h) ?hy3_4 (by assumption) ?hh3_4
        case hi3_4 => ((simp only [List.getElem?_toArray, List.getElem?_cons_succ, List.getElem?_cons_zero]); rfl)
        case hs3_4 => kernel_rfl
        case hf3_4 => kernel_rfl
        case hr3_4 => kernel_rfl
        case hy3_4 => exact Or.inl ⟨by rfl, by (intro wq hSw; (try dsimp only at hSw); go_simp; (try with_reducible rfl))⟩
        try simp only [Act.put, List.setIfInBounds_toArray, List.set_cons_zero, List.set_cons_succ]
        refine wpAnyH_take (i := 4) (oi := ?o4_5) (v := ?v4_5) ?hi4_5 ?hs4_5 ?hf4_5 ?hr4_5 (fun _ _ _ h => h) ?hy4_5 (by assumption) ?hh4_5
        case hi4_5 => ((simp only [List.getElem?_toArray, List.getElem?_cons_succ, List.getElem?_cons_zero]); rfl)
        case hs4_5 => kernel_rfl
        case hf4_5 => kernel_rfl
        case hr4_5 => kernel_rfl
        case hy4_5 => exact Or.inl ⟨by rfl, by (intro wq hSw; (try dsimp only at hSw); go_simp; (try with_reducible rfl))⟩
        try simp only [Act.put, List.setIfInBounds_toArray, List.set_cons_zero, List.set_cons_succ]
        refine wpAnyH_take (i := 5) (oi := ?o5_6) (v := ?v5_6) ?hi5_6 ?hs5_6 ?hf5_6 ?hr5_6 (fun _ _ _ h => h) ?hy5_6 (by assumption) ?hh5_6
        case hi5_6 => ((simp only [List.getElem?_toArray, List.getElem?_cons_succ, List.getElem?_cons_zero]); rfl)
        case hs5_6 => kernel_rfl
        case hf5_6 => kernel_rfl
        case hr5_6 => kernel_rfl
        case hy5_6 => exact Or.inl ⟨by rfl, by (intro wq hSw; (try dsimp only at hSw); go_simp; (try with_reducible rfl))⟩
        try simp only [Act.put, List.setIfInBounds_toArray, List.set_cons_zero, List.set_cons_succ]
        refine wpAnyH_take (i := 6) (oi := ?o6_7) (v := ?v6_7) ?hi6_7 ?hs6_7 ?hf6_7 ?hr6_7 (fun _ _ _ h => h) ?hy6_7 (by assumption) ?hh6_7
        case hi6_7 => ((simp only [List.getElem?_toArray, List.getElem?_cons_succ, List.getElem?_cons_zero]); rfl)
        case hs6_7 => kernel_rfl
        case hf6_7 => kernel_rfl
        case hr6_7 => kernel_rfl
        case hy6_7 => exact Or.inl ⟨by rfl, by (intro wq hSw; (try dsimp only at hSw); go_simp; (try with_reducible rfl))⟩
        try simp only [Act.put, List.setIfInBounds_toArray, List.set_cons_zero, List.set_cons_succ]
        refine wpAnyH_take (i := 7) (oi := ?o7_8) (v := ?v7_8) ?hi7_8 ?hs7_8 ?hf7_8 ?hr7_8 (fun _ _ _ h => h) ?hy7_8 (by assumption) ?hh7_8
        case hi7_8 => ((simp only [List.getElem?_toArray, List.getElem?_cons_succ, List.getElem?_cons_zero]); rfl)
        case hs7_8 => kernel_rfl
        case hf7_8 => kernel_rfl
        case hr7_8 => kernel_rfl
        case hy7_8 => exact Or.inl ⟨by rfl, by (intro wq hSw; (try dsimp only at hSw); go_simp; (try with_reducible rfl))⟩
        try simp only [Act.put, List.setIfInBounds_toArray, List.set_cons_zero, List.set_cons_succ]
        refine wpAnyH_take (i := 10) (oi := ?o10_9) (v := ?v10_9) ?hi10_9 ?hs10_9 ?hf10_9 ?hr10_9 (fun _ _ _ h => h) ?hy10_9 (by assumption) ?hh10_9
        case hi10_9 => ((simp only [List.getElem?_toArray, List.getElem?_cons_succ, List.getElem?_cons_zero]); rfl)
        case hs10_9 => kernel_rfl
        case hf10_9 => kernel_rfl
        case hr10_9 => kernel_rfl
        case hy10_9 => exact Or.inl ⟨by rfl, by (intro wq hSw; (try dsimp only at hSw); go_simp; (try with_reducible rfl))⟩
        try simp only [Act.put, List.setIfInBounds_toArray, List.set_cons_zero, List.set_cons_succ]
        refine wpAnyH_ready (rs := [8]) (by kernel_rfl) (by simp) ?_
        refine AllReadyH.cons (o := ?o8_10) ?hi8_10 (fun K hK => ?hh8_10) AllReadyH.nil
        case hi8_10 => ((simp only [List.getElem?_toArray, List.getElem?_cons_succ, List.getElem?_cons_zero]); rfl)
        go_simp
        (go_at_call 146; refine (HAC.out _ HBD.out).mono ?_; rintro e w7 ⟨rfl, rfl⟩)
        (try dsimp only)
        refine hK.out _ _ (hHeld) (fun hHeld2 => ?_)
        clear hK K hHeld
        have hHeld := hHeld2
        clear hHeld2
        try simp only [Act.put, List.setIfInBounds_toArray, List.set_cons_zero, List.set_cons_succ]
        refine wpAnyH_take (i := 9) (oi := ?o9_11) (v := ?v9_11) ?hi9_11 ?hs9_11 ?hf9_11 ?hr9_11 (fun _ _ _ h => h) ?hy9_11 (by assumption) ?hh9_11
        case hi9_11 => ((simp only [List.getElem?_toArray, List.getElem?_cons_succ, List.getElem?_cons_zero]); rfl)
        case hs9_11 => kernel_rfl
        case hf9_11 => kernel_rfl
        case hr9_11 => kernel_rfl
        case hy9_11 => exact Or.inl ⟨by rfl, by (intro wq hSw; (try dsimp only at hSw); go_simp; (try with_reducible rfl))⟩
        try simp only [Act.put, List.setIfInBounds_toArray, List.set_cons_zero, List.set_cons_succ]
        refine wpAnyH_ready (rs := [11]) (by kernel_rfl) (by simp) ?_
        refine AllReadyH.cons (o := ?o11_12) ?hi11_12 (fun K hK => ?hh11_12) AllReadyH.nil
        case hi11_12 => ((simp only [List.getElem?_toArray, List.getElem?_cons_succ, List.getElem?_cons_zero]); rfl)
        go_simp
        (go_at_call 138; refine (HND.out _).mono ?_; rintro e w8 ⟨rfl, rfl⟩)
        (try dsimp only)
        refine hK.out _ _ (hHeld) (fun hHeld2 => ?_)
        clear hK K hHeld
        have hHeld := hHeld2
        clear hHeld2
        try simp only [Act.put, List.setIfInBounds_toArray, List.set_cons_zero, List.set_cons_succ]
        refine wpAnyH_take (i := 12) (oi := ?o12_13) (v := ?v12_13) ?hi12_13 ?hs12_13 ?hf12_13 ?hr12_13 (fun _ _ _ h => h) ?hy12_13 (by assumption) ?hh12_13
        case hi12_13 => ((simp only [List.getElem?_toArray, List.getElem?_cons_succ, List.getElem?_cons_zero]); rfl)
        case hs12_13 => kernel_rfl
        case hf12_13 => kernel_rfl
        case hr12_13 => kernel_rfl
        case hy12_13 => exact Or.inl ⟨by rfl, by (intro wq hSw; (try dsimp only at hSw); go_simp; (try with_reducible rfl))⟩
        try simp only [Act.put, List.setIfInBounds_toArray, List.set_cons_zero, List.set_cons_succ]
        refine wpAnyH_ready (rs := [13]) (by kernel_rfl) (by simp) ?_
        refine AllReadyH.cons (o := ?o13_14) ?hi13_14 (fun K hK => ?hh13_14) AllReadyH.nil
        case hi13_14 => ((simp only [List.getElem?_toArray, List.getElem?_cons_succ, List.getElem?_cons_zero]); rfl)
        go_simp
        refine hK.out _ _ (HSV.out _) (fun hHeld2 => ?_)
        clear hK K hHeld
        have hHeld := hHeld2
        clear hHeld2
        try simp only [Act.put, List.setIfInBounds_toArray, List.set_cons_zero, List.set_cons_succ]
        refine wpAnyH_done (by kernel_rfl) ?_ _
        refine NoPanic.normal ?_
        clear hHeld
        have HM7 := hide (HMD.out.set k d)
        have HW7 := hide (HMD.out.keep HWD.out (by omega) k (.int .i64 d))
        have HL7 := hide (HMD.out.keep HLD.out (by omega) k (.int .i64 d))
        have HY7 := hide (show (ys.set k d).length = 5 from by rw [List.length_set]; exact HYL.out)
        have HS7 := hide (show ∀ v, inB v 1 1000000000 = true → d = v → ∀ j, j < k + 1 → 1 ≤ ig (ys.set k d) j ∧ ig (ys.set k d) j ≤ 1000000000 from fun v hv hdv j hj => by
          rw [ig_set ys k j d (by rw [HYL.out]; exact hlt)]
          have := inB_true hv
          split
          · omega
          · exact HYB.out j (by omega))
        obtain ⟨w7, hw7⟩ : ∃ w7, w7 = (w6.setCell ⟨gb, k, none⟩ (.int .i64 d)).drew := ⟨_, rfl⟩
        have he7 : w6.drew.setCell ⟨gb, k, none⟩ (.int .i64 d) = w7 := by rw [hw7]; go_simp
        have d2 := (HSV.out (.int .i64 d)).1
        have hd7 : (w6.drew.setCell ⟨gb, k, none⟩ (.int .i64 d)).cell? ⟨gb, k, none⟩ = some (.int .i64 d) := by go_simp
        rw [he7] at HM7 HW7 HL7 d2 hd7
        rw [← hw7]
        clear hw7 he7 c2 cx cy fy HSV HMD HWD HLD HBD HBE HND HAC
        go_wp2_with fail
        refine (specl00In_any d 1 1000000000 _).mono ?_
        rintro e w8 ⟨rfl, rfl⟩
        cases hin : inB d 1 1000000000
        · obtain ⟨r0, r1, r2, rf⟩ := HM7.out.rcells
          have rf0 := rf 0
          have rf1 := rf 1
          have rf2 := rf 2
          have HBL := hide HM7.out.bel
          clear rf
          go_wp2_with fail
          refine bodyPost_ret (v := .tuple #[.agg #[.slice none 0 0, .slice none 0 0, .slice none 0 0], .bool false]) (by simp [results, Tryz.results87, go_sem, r0, r1, r2]) rfl (.inr ⟨rfl, ?_⟩)
          exact ((HBL.out.setCell (Nat.le_refl _) _).setCell (Nat.le_refl _) _).setCell (Nat.le_refl _) _
        · have HIN := hide hin
          clear hin
          go_wp2_with fail
          go_roundw
          case rel => exact ⟨k + 1, ys.set k d, by go_num, by omega, HY7.out, hide (HS7.out d HIN.out rfl), HM7, HW7, HL7⟩
          case measure => simp [intOf]; omega
    · obtain rfl : k = 5 := by omega
      obtain ⟨c0, c1, c2, _⟩ := HMR.out.cells
      obtain ⟨r0, r1, r2, rf⟩ := HMR.out.rcells
      have rf0 := rf 0
      have rf1 := rf 1
      have rf2 := rf 2
      have HF := hide (fun a0 a1 a2 => HMR.out.fin a0 a1 a2)
      clear rf
      go_wp2_with fail
      refine bodyPost_ret (v := .tuple #[.agg #[.slice A1 zs.length e1, .slice A2 ws.length e2, .slice (some ⟨gb, 0, none⟩) ys.length e3], .bool true]) (by simp [results, Tryz.results87, go_sem, r0, r1, r2]) rfl (.inl ⟨_, _, _, _, _, _, N2, ys, rfl, HYL.out, HYB.out, (HF.out _ _ _).1, (HF.out _ _ _).2⟩)
end Go.Proofs.YtnefgafmnpblpaaGreat
namespace Go.Proofs.YtnefgafmnpblpaaGreat
open Go.RowKit Pn

theorem LL.cell {w : World} {B N Q j : Nat} {v x : Value} {vs : List Value} {ls : List (List Int)} {T' : TypeId} {cs : Array Value} {fr : Nat × Nat} (h : LL w B N v vs ls) (hq : w.heap[Q]? = some (.cells cs T' fr)) (h1 : 24 ≠ T') (h2 : 2 ≠ T') : LL (w.setCell ⟨Q, j, none⟩ x) B N v vs ls :=
  ⟨h.len, own_cell h.outer hq h1, h.outLt, fun i u l a b => ⟨own_cell (h.inner i u l a b).1 hq h2, (h.inner i u l a b).2⟩, h.apart⟩
theorem MdO.cell {w : World} {B N Q j : Nat} {Az : Option Addr} {cz : Nat} {Aw : Option Addr} {cw : Nat} {Ab : Option Addr} {cb : Nat} {zs : List Int} {ws : List (List Int)} {bs : List Int} {x : Value} {T' : TypeId} {cs : Array Value} {fr : Nat × Nat} (h : MdO w B N Az cz Aw cw Ab cb zs ws bs) (hq : w.heap[Q]? = some (.cells cs T' fr)) (h1 : 24 ≠ T') (h2 : 2 ≠ T') : MdO (w.setCell ⟨Q, j, none⟩ x) B N Az cz Aw cw Ab cb zs ws bs := by
  obtain ⟨vs, N2, hl⟩ := h.g
  exact ⟨own_cell h.z hq h2, own_cell h.b hq h2, h.bN, h.zb, ⟨vs, N2, hl.cell hq h1 h2⟩, h.o, h.zN⟩
/-- The three results' cells. -/
structure D3 (B b N : Nat) (w0 w : World) : Prop where
  d : Dw B b N w0 w
  r1 : w.heap[w0.heap.size]? = some (.cells #[.slice none 0 0, .slice none 0 0, .slice none 0 0] 27 (0, 0))
  r2 : w.heap[w0.heap.size + 1]? = some (.cells (PCELLS ⟨#[]⟩ none 0 0) 30 (0, 0))
  r3 : w.heap[w0.heap.size + 2]? = some (.cells #[.int .i64 0, .int .i64 0, .int .i64 0, .int .i64 0, .int .i64 0, .int .i64 0, .int .i64 0] 34 (0, 0))
/-- The profile in block P. -/
structure DP (B b N : Nat) (w0 w : World) (P : Nat) (nm : ByteArray) (A : Option Addr) (c : Nat) (rs : List RingR) : Prop where
  t : D3 B b N w0 w
  p : w.heap[P]? = some (.cells (PCELLS nm A rs.length c) 30 (0, 0))
  o : OwnR w (w0.heap.size + 3) (.slice A rs.length c) rs
  hP : w0.heap.size + 3 ≤ P
/-- The model in block M. -/
structure DM (B b N : Nat) (w0 w : World) (P M : Nat) (nm : ByteArray) (A : Option Addr) (c : Nat) (rs : List RingR) (Az : Option Addr) (cz : Nat) (Aw : Option Addr) (cw : Nat) (Ab : Option Addr) (cb : Nat) (zs : List Int) (ws : List (List Int)) (bs : List Int) : Prop where
  p : DP B b N w0 w P nm A c rs
  m : w.heap[M]? = some (.cells #[.slice Az zs.length cz, .slice Aw ws.length cw, .slice Ab bs.length cb] 27 (0, 0))
  o : ∃ N', MdO w (w0.heap.size + 3) N' Az cz Aw cw Ab cb zs ws bs
  hM : w0.heap.size + 3 ≤ M
/-- The goal in block G. -/
structure DG (B b N : Nat) (w0 w : World) (P M G : Nat) (nm : ByteArray) (A : Option Addr) (c : Nat) (rs : List RingR) (Az : Option Addr) (cz : Nat) (Aw : Option Addr) (cw : Nat) (Ab : Option Addr) (cb : Nat) (zs : List Int) (ws : List (List Int)) (bs : List Int) (gs : List Int) : Prop where
  m : DM B b N w0 w P M nm A c rs Az cz Aw cw Ab cb zs ws bs
  g : w.heap[G]? = some (.cells (gs.map (Value.int .i64)).toArray 34 (0, 0))
  l : gs.length = 7
  hG : w0.heap.size + 3 ≤ G
section
variable {B b N N' : Nat} {w0 w w' : World} {P M G : Nat} {nm : ByteArray} {A : Option Addr} {c : Nat} {rs : List RingR} {Az : Option Addr} {cz : Nat} {Aw : Option Addr} {cw : Nat} {Ab : Option Addr} {cb : Nat} {zs : List Int} {ws : List (List Int)} {bs : List Int} {gs : List Int}
theorem D3.go (h : D3 B b N w0 w) (hd : Dw B b N' w0 w') (hg : w.grownBy w' (some b)) : D3 B b N' w0 w' := by
  have hb := h.d.bl
  exact ⟨hd, (hg.block _ (heap_lt h.r1) (fun e => by injection e with e; omega)).trans h.r1, (hg.block _ (heap_lt h.r2) (fun e => by injection e with e; omega)).trans h.r2, (hg.block _ (heap_lt h.r3) (fun e => by injection e with e; omega)).trans h.r3⟩
theorem DP.go (h : DP B b N w0 w P nm A c rs) (hd : Dw B b N' w0 w') (hg : w.grownBy w' (some b)) : DP B b N' w0 w' P nm A c rs := by
  have hb := h.t.d.bl
  have hP := h.hP
  exact ⟨h.t.go hd hg, (hg.block _ (heap_lt h.p) (fun e => by injection e with e; omega)).trans h.p, own_farN h.o (by omega) hg, hP⟩
theorem DM.go (h : DM B b N w0 w P M nm A c rs Az cz Aw cw Ab cb zs ws bs) (hd : Dw B b N' w0 w') (hg : w.grownBy w' (some b)) : DM B b N' w0 w' P M nm A c rs Az cz Aw cw Ab cb zs ws bs := by
  have hb := h.p.t.d.bl
  have hM := h.hM
  obtain ⟨N1, ho⟩ := h.o
  exact ⟨h.p.go hd hg, (hg.block _ (heap_lt h.m) (fun e => by injection e with e; omega)).trans h.m, ⟨N1, ho.far (by omega) hg⟩, hM⟩
theorem DG.go (h : DG B b N w0 w P M G nm A c rs Az cz Aw cw Ab cb zs ws bs gs) (hd : Dw B b N' w0 w') (hg : w.grownBy w' (some b)) : DG B b N' w0 w' P M G nm A c rs Az cz Aw cw Ab cb zs ws bs gs := by
  have hb := h.m.p.t.d.bl
  have hG := h.hG
  exact ⟨h.m.go hd hg, (hg.block _ (heap_lt h.g) (fun e => by injection e with e; omega)).trans h.g, h.l, hG⟩
theorem D3.set {q : Nat} (h : D3 B b N w0 w) (hq : w0.heap.size + 3 ≤ q) (j : Nat) (v : Value) : D3 B b N w0 (w.setCell ⟨q, j, none⟩ v) :=
  ⟨h.d.set (by omega) j v, (heap_other (by omega)).trans h.r1, (heap_other (by omega)).trans h.r2, (heap_other (by omega)).trans h.r3⟩
theorem DP.cell {q : Nat} {T' : TypeId} {cs : Array Value} {fr : Nat × Nat} (h : DP B b N w0 w P nm A c rs) (hq : w0.heap.size + 3 ≤ q) (hh : w.heap[q]? = some (.cells cs T' fr)) (h1 : 156 ≠ T') (h2 : 30 ≠ T') (j : Nat) (v : Value) : DP B b N w0 (w.setCell ⟨q, j, none⟩ v) P nm A c rs :=
  ⟨h.t.set hq j v, (heap_other (fun e => by subst e; have := h.p.symm.trans hh; injection this with this; injection this with _ e _; exact h2 e)).trans h.p, own_cell h.o hh h1, h.hP⟩
theorem DM.cell {q : Nat} {T' : TypeId} {cs : Array Value} {fr : Nat × Nat} (h : DM B b N w0 w P M nm A c rs Az cz Aw cw Ab cb zs ws bs) (hq : w0.heap.size + 3 ≤ q) (hh : w.heap[q]? = some (.cells cs T' fr)) (h1 : 156 ≠ T') (h2 : 30 ≠ T') (h3 : 27 ≠ T') (h4 : 24 ≠ T') (h5 : 2 ≠ T') (j : Nat) (v : Value) : DM B b N w0 (w.setCell ⟨q, j, none⟩ v) P M nm A c rs Az cz Aw cw Ab cb zs ws bs := by
  obtain ⟨N1, ho⟩ := h.o
  exact ⟨h.p.cell hq hh h1 h2 j v, (heap_other (fun e => by subst e; have := h.m.symm.trans hh; injection this with this; injection this with _ e _; exact h3 e)).trans h.m, ⟨N1, ho.cell hh h4 h5⟩, h.hM⟩
/-- A number of the goal is written. -/
theorem DG.setG (h : DG B b N w0 w P M G nm A c rs Az cz Aw cw Ab cb zs ws bs gs) (j : Nat) (v : Int) : DG B b N w0 (w.setCell ⟨G, j, none⟩ (.int .i64 v)) P M G nm A c rs Az cz Aw cw Ab cb zs ws bs (gs.set j v) := by
  refine ⟨h.m.cell h.hG h.g (by decide) (by decide) (by decide) (by decide) (by decide) j _, ?_, by rw [List.length_set]; exact h.l, h.hG⟩
  have e := heap_setD (j := j) (.int .i64 v) h.g
  rw [e]
  congr 1
  simp [List.map_set]
/-- The name or the rings are written. -/
theorem DP.put {A' : Option Addr} {c' : Nat} {rs' : List RingR} (h : DP B b N w0 w P nm A c rs) (ho : OwnR w (w0.heap.size + 3) (.slice A' rs'.length c') rs') : DP B b N w0 (w.setCell ⟨P, 1, none⟩ (.slice A' rs'.length c')) P nm A' c' rs' :=
  ⟨h.t.set h.hP 1 _, heap_setD (j := 1) _ h.p, own_cell ho h.p (by decide), h.hP⟩
theorem DP.name (h : DP B b N w0 w P nm A c rs) (nm' : ByteArray) : DP B b N w0 (w.setCell ⟨P, 0, none⟩ (.string nm')) P nm' A c rs :=
  ⟨h.t.set h.hP 0 _, heap_setD (j := 0) _ h.p, own_cell h.o h.p (by decide), h.hP⟩
/-- A new profile. -/
theorem DG.setP {A' : Option Addr} {c' : Nat} {rs' : List RingR} {nm' : ByteArray} (h : DG B b N w0 w P M G nm A c rs Az cz Aw cw Ab cb zs ws bs gs) (ho : OwnR w (w0.heap.size + 3) (.slice A' rs'.length c') rs') : DG B b N w0 ((w.setCell ⟨P, 0, none⟩ (.string nm')).setCell ⟨P, 1, none⟩ (.slice A' rs'.length c')) P M G nm' A' c' rs' Az cz Aw cw Ab cb zs ws bs gs := by
  obtain ⟨N1, hm⟩ := h.m.o
  have hp := h.m.p.p
  have q0 := heap_setD (j := 0) (.string nm') hp
  have ho' : OwnR (w.setCell ⟨P, 0, none⟩ (.string nm')) (w0.heap.size + 3) (.slice A' rs'.length c') rs' := own_cell ho hp (by decide)
  have hMP : M ≠ P := fun e => by subst e; have := h.m.m.symm.trans hp; injection this with this; injection this with _ e _; exact absurd e (by decide)
  have hGP : G ≠ P := fun e => by subst e; have := h.g.symm.trans hp; injection this with this; injection this with _ e _; exact absurd e (by decide)
  exact ⟨⟨(h.m.p.name nm').put ho', (heap_other hMP).trans ((heap_other hMP).trans h.m.m), ⟨N1, (hm.cell hp (by decide) (by decide)).cell q0 (by decide) (by decide)⟩, h.m.hM⟩, (heap_other hGP).trans ((heap_other hGP).trans h.g), h.l, h.hG⟩
/-- A number of the base is written. -/
theorem DG.setB {gb k : Nat} (h : DG B b N w0 w P M G nm A c rs Az cz Aw cw (some ⟨gb, 0, none⟩) cb zs ws bs gs) (v : Int) : DG B b N w0 (w.setCell ⟨gb, k, none⟩ (.int .i64 v)) P M G nm A c rs Az cz Aw cw (some ⟨gb, 0, none⟩) cb zs ws (bs.set k v) gs := by
  obtain ⟨N1, hm⟩ := h.m.o
  have hge := (hm.b.lt gb rfl).1
  have n1 := own_neB hm.b h.m.m (by decide)
  have n2 := own_neB hm.b h.m.p.p (by decide)
  have n3 := own_neB hm.b h.g (by decide)
  have e1 : M ≠ gb := fun e => by rcases n1 with n | n <;> simp [Value.ownBlock] at n <;> omega
  have e2 : P ≠ gb := fun e => by rcases n2 with n | n <;> simp [Value.ownBlock] at n <;> omega
  have e3 : G ≠ gb := fun e => by rcases n3 with n | n <;> simp [Value.ownBlock] at n <;> omega
  have ho := h.m.p.o.kept (grown_set (grown_refl w (some gb)) k (.int .i64 v)) (own_types h.m.p.o hm.b (by decide))
  exact ⟨⟨⟨h.m.p.t.set hge k _, (heap_other e2).trans h.m.p.p, ho, h.m.p.hP⟩, (heap_other e1).trans (by rw [List.length_set]; exact h.m.m), ⟨N1, hm.set v⟩, h.m.hM⟩, (heap_other e3).trans h.g, h.l, h.hG⟩
/-- A new model. -/
theorem DM.setM {Az' : Option Addr} {cz' : Nat} {Aw' : Option Addr} {cw' : Nat} {Ab' : Option Addr} {cb' : Nat} {zs' : List Int} {ws' : List (List Int)} {bs' : List Int} {N1 : Nat} (h : DM B b N w0 w P M nm A c rs Az cz Aw cw Ab cb zs ws bs) (hm : MdO w (w0.heap.size + 3) N1 Az' cz' Aw' cw' Ab' cb' zs' ws' bs') :
    DM B b N w0 (((w.setCell ⟨M, 0, none⟩ (.slice Az' zs'.length cz')).setCell ⟨M, 1, none⟩ (.slice Aw' ws'.length cw')).setCell ⟨M, 2, none⟩ (.slice Ab' bs'.length cb')) P M nm A c rs Az' cz' Aw' cw' Ab' cb' zs' ws' bs' := by
  have q0 := heap_setD (j := 0) (.slice Az' zs'.length cz') h.m
  have q1 := heap_setD (j := 1) (.slice Aw' ws'.length cw') q0
  have q2 := heap_setD (j := 2) (.slice Ab' bs'.length cb') q1
  exact ⟨((h.p.cell h.hM h.m (by decide) (by decide) 0 _).cell h.hM q0 (by decide) (by decide) 1 _).cell h.hM q1 (by decide) (by decide) 2 _, q2, ⟨N1, ((hm.cell h.m (by decide) (by decide)).cell q0 (by decide) (by decide)).cell q1 (by decide) (by decide)⟩, h.hM⟩
end
end Go.Proofs.YtnefgafmnpblpaaGreat
