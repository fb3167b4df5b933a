/- Contracts: the program's search for the least deviation. -/
import Derived.Test.YtnefgafmnpblpaaGreatPnXd
namespace Go.Proofs.YtnefgafmnpblpaaGreat
open Go.RowKit Pn

/-- The searching struct in block b, and the one for the least deviation in block bc. -/
structure CuC (x : Cx) (w0 : World) (bc b gl lc gs sc : Nat) (w : World) (ss : List Int) (s : S) : Prop where
  st : ∃ fA fc, w.heap[b]? = some (.cells (x.cells s.left s.spent gl lc gs sc (-1) false s.count fA s.found.length fc) 85 (0, 0)) ∧ OwnI w (bc + 1) (.slice fA s.found.length fc) s.found ∧ (s.found = [] → fA = none)
  cl : ∃ v, w.heap[bc]? = some (.cells #[.pointer (some ⟨b, 0, none⟩), .int .i64 v] 97 (0, 0)) ∧ (0 ≤ s.least → v = s.least)
  lf : s.least < 0 ↔ s.found = []
  lim : OwnI w w0.heap.size (.slice (some ⟨gl, 0, none⟩) x.zs.length lc) x.lim
  row : OwnI w w0.heap.size (.slice (some ⟨gs, 0, none⟩) x.zs.length sc) ss
  ne : gl ≠ gs ∧ gl < b ∧ gs < b
  inv : Inv x.lim s
  bel : Below w0.heap.size w0 w
  hb : w0.heap.size ≤ b
  hbc : b < bc
section
variable {x : Cx} {w0 w w' : World} {bc b gl lc gs sc : Nat} {ss : List Int} {s : S}
theorem CuC.cu (h : CuC x w0 bc b gl lc gs sc w ss s) : CuI x w0 b gl lc gs sc (-1) false w ss s := by
  obtain ⟨fA, fc, h1, h2, h3⟩ := h.st
  exact ⟨⟨fA, fc, h1, h2.mono (by have := h.hbc; omega)⟩, h.lim, h.row, h.ne, h.inv, h.bel, h.hb⟩
theorem CuC.lt (h : CuC x w0 bc b gl lc gs sc w ss s) : bc < w.heap.size := by
  obtain ⟨v, h1, _⟩ := h.cl
  exact heap_lt h1
theorem CuC.below (h : CuC x w0 bc b gl lc gs sc w ss s) (hb : Below w.heap.size w w') : CuC x w0 bc b gl lc gs sc w' ss s := by
  have hl := h.lt
  have hbc := h.hbc
  obtain ⟨fA, fc, h1, h2, h3⟩ := h.st
  obtain ⟨v, h4, h5⟩ := h.cl
  exact ⟨⟨fA, fc, (hb.block b (by omega)).trans h1, h2.below hb, h3⟩, ⟨v, (hb.block bc hl).trans h4, h5⟩, h.lf, h.lim.below hb, h.row.below hb, h.ne, h.inv, h.bel.trans (hb.mono h.bel.size), h.hb, hbc⟩
theorem CuC.step (h : CuC x w0 bc b gl lc gs sc w ss s) (k : Nat) (v : Int) : CuC x w0 bc b gl lc gs sc (w.setCell ⟨gs, k, none⟩ (.int .i64 v)) (ss.set k v) s := by
  have hbc := h.hbc
  obtain ⟨fA, fc, h1, h2, h3⟩ := h.st
  obtain ⟨v', h4, h5⟩ := h.cl
  have hne := h.ne
  refine ⟨⟨fA, fc, (heap_other (by omega)).trans h1, ?_, h3⟩, ⟨v', (heap_other (by omega)).trans h4, h5⟩, h.lf, own_ne h.lim h.ne.1 _ _, own_set1 (f := fun x : Int => .int .i64 x) (fun _ => rfl) h.row v, h.ne, h.inv, h.bel.setCell (h.row.lt gs (by simp [Value.ownBlock])).1 _, h.hb, hbc⟩
  exact own_farN h2 (by omega) (grown_set (grown_refl w (some gs)) k _)
theorem CuC.cell (h : CuC x w0 bc b gl lc gs sc w ss s) {j : Nat} {v : Value} {s' : S} (hst : ∀ fA fc, (x.cells s.left s.spent gl lc gs sc (-1) false s.count fA s.found.length fc).setIfInBounds j v = x.cells s'.left s'.spent gl lc gs sc (-1) false s'.count fA s'.found.length fc) (hf : s'.found = s.found) (hl : s'.least = s.least) (hi : Inv x.lim s') :
    CuC x w0 bc b gl lc gs sc (w.setCell ⟨b, j, none⟩ v) ss s' := by
  have hbc := h.hbc
  obtain ⟨fA, fc, h1, h2, h3⟩ := h.st
  obtain ⟨v', h4, h5⟩ := h.cl
  have hg := grown_set (grown_refl w (some b)) j v
  have hne := h.ne
  refine ⟨⟨fA, fc, (heap_set' v h1).trans (by rw [hst]), by rw [hf]; exact own_farN h2 (by omega) hg, by rw [hf]; exact h3⟩, ⟨v', (heap_other (by omega)).trans h4, by rw [hl]; exact h5⟩, by rw [hf, hl]; exact h.lf, own_ne h.lim (by omega) _ _, own_ne h.row (by omega) _ _, h.ne, hi, h.bel.setCell h.hb _, h.hb, hbc⟩
theorem CuC.node (h : CuC x w0 bc b gl lc gs sc w ss s) (h0 : s.left ≠ 0) : CuC x w0 bc b gl lc gs sc (w.setCell ⟨b, 0, none⟩ (.int .i64 (s.left - 1))) ss { s with left := s.left - 1 } :=
  h.cell (s' := { s with left := s.left - 1 }) (fun _ _ => rfl) rfl rfl (h.inv.node h0).1
theorem CuC.over (h : CuC x w0 bc b gl lc gs sc w ss s) : CuC x w0 bc b gl lc gs sc (w.setCell ⟨b, 1, none⟩ (.bool true)) ss { s with spent := true } :=
  h.cell (s' := { s with spent := true }) (fun _ _ => rfl) rfl rfl ⟨h.inv.l0, h.inv.c0, h.inv.sum, h.inv.fnd, h.inv.le⟩
/-- A find is kept, and how far it is off. -/
theorem CuC.find {A : Option Addr} {c : Nat} {l : List Int} {d : Int} (h : CuC x w0 bc b gl lc gs sc w ss s) (ho : OwnI w' w.heap.size (.slice A l.length c) l) (hb : Below w.heap.size w w') (hp : Pre x.lim l) (hl : l.length = x.lim.length) (hl1 : 1 ≤ l.length) (h0 : 0 ≤ d) (h1 : d ≤ 4000000000000000000) :
    CuC x w0 bc b gl lc gs sc ((w'.setCell ⟨b, 19, none⟩ (.slice A l.length c)).setCell ⟨bc, 1, none⟩ (.int .i64 d)) ss { s with found := l, least := d } := by
  have hlt := h.lt
  have hbc := h.hbc
  have h' := h.below hb
  obtain ⟨fA, fc, g1, g2, g3⟩ := h'.st
  obtain ⟨v', g4, g5⟩ := h'.cl
  have hg := grown_set (grown_refl w' (some b)) 19 (.slice A l.length c)
  have hg2 := grown_set (grown_refl (w'.setCell ⟨b, 19, none⟩ (.slice A l.length c)) (some bc)) 1 (.int .i64 d)
  have hne := h.ne
  refine ⟨⟨A, c, (heap_other (by omega)).trans (heap_set' _ g1), own_farN (own_farN (ho.mono (by omega)) (by omega) hg) (by omega) hg2, fun e => by simp only at e; rw [e] at hl1; simp at hl1⟩, ⟨d, ?_, fun _ => rfl⟩, ⟨fun e => by simp only at e; omega, fun e => by simp only at e; rw [e] at hl1; simp at hl1⟩, own_ne (own_ne h'.lim (by omega) _ _) (by omega) _ _, own_ne (own_ne h'.row (by omega) _ _) (by omega) _ _, h.ne, ⟨h.inv.l0, h.inv.c0, h.inv.sum, .inr ⟨hp, hl⟩, by simp only; omega⟩, (h'.bel.setCell h.hb _).setCell (show w0.heap.size ≤ bc by have := h.hb; omega) _, h.hb, hbc⟩
  have e : (w'.setCell ⟨b, 19, none⟩ (.slice A l.length c)).heap[bc]? = w'.heap[bc]? := heap_other (by omega)
  simpa using heap_setD (j := 1) (.int .i64 d) (e.trans g4)
theorem CuC.cells (h : CuC x w0 bc b gl lc gs sc w ss s) : w.cell? ⟨bc, 0, none⟩ = some (.pointer (some ⟨b, 0, none⟩)) ∧ (∃ v, w.cell? ⟨bc, 1, none⟩ = some (.int .i64 v) ∧ (0 ≤ s.least → v = s.least)) ∧ (∀ j, w.frozen? ⟨bc, j, none⟩ = false) ∧ ∃ fA fc, w.cell? ⟨b, 19, none⟩ = some (.slice fA s.found.length fc) ∧ (s.found = [] → fA = none) ∧ (s.found ≠ [] → ∃ a, fA = some a) := by
  obtain ⟨fA, fc, h1, h2, h3⟩ := h.st
  obtain ⟨v', h4, h5⟩ := h.cl
  refine ⟨by simp [World.cell?, h4], ⟨v', by simp [World.cell?, h4], h5⟩, fun j => by simp [World.frozen?, h4], fA, fc, by simp [World.cell?, h1], h3, fun hn => ?_⟩
  obtain ⟨g, e, _⟩ := own_get1 h2 (k := 0) (by cases hq : s.found with | nil => exact absurd hq hn | cons a b => simp)
  exact ⟨_, e⟩
end
/-- What is shown of a search with f calls still to come. -/
def CloOK (x : Cx) (w0 : World) (bc b gl lc gs sc : Nat) (f : Nat) : Prop :=
  ∀ (w : World) (l : List Int) (s : S), CuC x w0 bc b gl lc gs sc w (pad x.zs.length l) s → Pre x.lim l → l.length + f = x.zs.length + 1 →
    Calls Tryz.prog 52 #[.pointer (some ⟨bc, 0, none⟩), .int .i64 l.length] w fun e w' => e = .returned (.tuple #[]) ∧ CuC x w0 bc b gl lc gs sc w' (pad x.zs.length l) (srch (x.qx false true) f l s)
set_option maxRecDepth 100000 in
set_option maxHeartbeats 2000000 in
theorem clo_goes {x : Cx} {w0 w : World} {bc b gl lc gs sc : Nat} {l : List Int} {s : S} (f : Nat) (HX : Hid (x.OK w0)) (HIH : Hid (CloOK x w0 bc b gl lc gs sc f)) (HS : Hid (CuC x w0 bc b gl lc gs sc w (pad x.zs.length l) s)) (HP : Hid (Pre x.lim l)) (hl : l.length < x.zs.length) (hf : Hid (l.length + f = x.zs.length)) :
    Calls Tryz.prog 52 #[.pointer (some ⟨bc, 0, none⟩), .int .i64 l.length] w fun e w' => e = .returned (.tuple #[]) ∧ CuC x w0 bc b gl lc gs sc w' (pad x.zs.length l) (srch (x.qx false true) (f + 1) l s) := by
  have HG := hide (srch_goes (q := x.qx false true) (f := f) (s := s) (l := l) (by show l.length ≠ x.lim.length; rw [x.lim_length]; omega))
  have hlb := HX.out.lim_bd l.length
  obtain ⟨L, hL⟩ : ∃ L : Nat, ig x.lim l.length = L := ⟨(ig x.lim l.length).toNat, by omega⟩
  have HLL := hide hL
  have hL20 : L ≤ 20 := by omega
  have HGL := hide (show srch (x.qx false true) (f + 1) l s = goK (x.qx false true) (srch (x.qx false true) f) l (L + 1) 0 s from by rw [HG.out]; show goK _ _ _ ((ig x.lim l.length).toNat + 1) 0 s = _; rw [hL]; rfl)
  have hn8 := HX.out.ask.z.len8
  clear hlb hL HG
  obtain ⟨k0, k1, k2, k3, k4, k5, k6, k7, k8, k9, k10, k11, k12, k13, k14, k15, k16, k17, k18, kf⟩ := HS.out.cu.all
  obtain ⟨p0, _⟩ := HS.out.cells
  clear k0 k1 k2 k3 k4 k5 k6 k7 k8 k9 k10 k11 k12 k13 k14 k16 k17 k18 kf
  have hne : ((l.length : Int) == (x.zs.length : Int)) = false := by simp; omega
  have hli : (l.length : Int) < x.zs.length := by omega
  have hl0 : (0 : Int) ≤ l.length := by omega
  go_enter Tryz.func52, Tryz.ntmps52
  go_wp2_with fail
  clear p0 k15
  go_loopw [7] (fun v wr => ∃ (k : Nat) (s' : S) (u : Int), v = .int .i64 k ∧ k ≤ L + 1 ∧ Hid (CuC x w0 bc b gl lc gs sc wr (pad x.zs.length (l ++ [u])) s') ∧ Hid (goK (x.qx false true) (srch (x.qx false true) f) l (L + 1 - k) k s' = goK (x.qx false true) (srch (x.qx false true) f) l (L + 1) 0 s)) (fun v _ => L + 1 - (intOf v).toNat)
  case atStart => exact ⟨0, s, 0, rfl, by omega, by rw [pad_zero hl]; exact HS, hide rfl⟩
  case round =>
    obtain ⟨k, s', u, rfl, hk, HS1, HK⟩ := hrel
    obtain ⟨w1, rfl⟩ : ∃ w1, w1 = wr := ⟨_, rfl⟩
    have HPL := hide (pad_length (n := x.zs.length) (l := l ++ [u]) (by simp; omega))
    obtain ⟨c1, c2, c3⟩ := HS1.out.cu.gets hl HPL.out
    rw [HLL.out] at c1
    obtain ⟨k0, k1, k2, k3, k4, k5, k6, k7, k8, k9, k10, k11, k12, k13, k14, k15, k16, k17, k18, kf⟩ := HS1.out.cu.all
    obtain ⟨p0, _⟩ := HS1.out.cells
    clear k2 k3 k4 k5 k6 k7 k8 k9 k10 k11 k12 k13 k16 k17 k18
    have f0 := kf 0
    have f1 := kf 1
    clear kf
    by_cases hlt : k ≤ L
    · have hkL : (k : Int) ≤ L := by omega
      have HK2 := hide (show goK (x.qx false true) (srch (x.qx false true) f) l ((L - k) + 1) k s' = goK (x.qx false true) (srch (x.qx false true) f) l (L + 1) 0 s from by rw [← HK.out, show L + 1 - k = L - k + 1 by omega])
      cases hsp : s'.spent
      · rw [hsp] at k1
        have HEN := hide (ended_qx (x := x) (all := false) (clo := true) hsp (fun h => nomatch h))
        obtain ⟨hi0, hi1, hi2, hi3, hi4⟩ := HS1.out.inv
        clear hsp
        by_cases h0 : s'.left = 0
        · have HE := hide (show ({ s' with spent := true } : S) = goK (x.qx false true) (srch (x.qx false true) f) l (L + 1) 0 s from (goK_spent (tried_qx _) HEN.out h0).symm.trans HK2.out)
          have HN := hide (node_none b false w1 (by rw [h0] at k0; exact k0) k1 f1)
          have HS2 := hide HS1.out.over
          clear h0 k0 f0 f1 hi0 hi1 hi2 hi3 hi4 c2 c3
          obtain ⟨j0, j1, j2, j3, j4, j5, j6, j7, j8, j9, j10, j11, j12, j13, j14, j15, j16, j17, j18, jf⟩ := HS2.out.cu.all
          obtain ⟨y0, _⟩ := HS2.out.cells
          obtain ⟨d1, d2, d3⟩ := HS2.out.cu.gets hl HPL.out
          clear j0 j1 j2 j3 j4 j5 j6 j7 j8 j9 j10 j11 j12 j13 j14 j16 j17 j18 jf d1
          go_wp2_with fail
          refine HN.out.mono ?_
          rintro e w2 ⟨rfl, hw2⟩
          rw [hw2] at HS2 j15 d2 d3 y0
          dsimp only
          clear k14 k15 c1 p0 k1 hw2
          go_wp2_with fail
          go_end0
          refine ⟨rfl, ?_⟩
          rw [HGL.out, ← HE.out]
          have h := HS2.out.step l.length 0
          rw [pad_at, pad_zero hl] at h
          exact h
        · have hpre := HP.out.snoc (n := (k : Int)) (by rw [x.lim_length]; exact hl) (by omega) (by rw [HLL.out]; exact hkL)
          have HPR := hide hpre
          have HN := hide (node_some b s'.left w1 h0 hi0 (by omega) k0 f0)
          have HS2 := hide (HS1.out.node h0)
          have kw2 : IntKind.i64.wrap ((l.length : Int) + 1) = (l.length : Int) + 1 := IntWalk.i64_in _ (by omega)
          have HH0 := hide h0
          clear h0 k0 f0 f1 hi0 hi1 hi2 hi3 hi4 hpre c2 c3
          obtain ⟨j0, j1, j2, j3, j4, j5, j6, j7, j8, j9, j10, j11, j12, j13, j14, j15, j16, j17, j18, jf⟩ := HS2.out.cu.all
          obtain ⟨y0, _⟩ := HS2.out.cells
          obtain ⟨d1, d2, d3⟩ := HS2.out.cu.gets hl HPL.out
          clear j0 j1 j2 j3 j4 j5 j6 j7 j8 j9 j10 j11 j12 j13 j14 j16 j17 j18 jf d1
          go_wp2_with fail
          refine HN.out.mono ?_
          rintro e w2 ⟨rfl, hw2⟩
          rw [hw2] at HS2 j15 d2 d3 y0
          have HS3 := hide (HS2.out.step l.length (k : Int))
          rw [pad_at] at HS3
          have HE := hide ((goK_go (tried_qx _) HEN.out HH0.out rfl).symm.trans HK2.out)
          have HREC := hide (fun W (hW : CuC x w0 bc b gl lc gs sc W (pad x.zs.length (l ++ [(k : Int)])) { s' with left := s'.left - 1 }) => by
            have hrec := HIH.out W (l ++ [(k : Int)]) _ hW HPR.out (by have := hf.out; simp; omega)
            rw [show (((l ++ [(k : Int)]).length : Nat) : Int) = (l.length : Int) + 1 by simp] at hrec
            exact hrec)
          dsimp only
          clear k14 k15 c1 p0 k1 hw2
          go_upto_region 11 with fail
          generalize w2.setCell ⟨gs, l.length, none⟩ (.int .i64 (k : Int)) = w3 at *
          clear j15 d2 d3 y0
          go_wp2_with fail
          refine (HREC.out _ HS3.out).mono ?_
          rintro e w5 ⟨rfl, hS5⟩
          have HS5 := hide hS5
          clear hS5
          dsimp only
          go_wp2_with fail
          go_roundw
          case rel => exact ⟨k + 1, _, (k : Int), by go_num, by omega, HS5, hide (by rw [show L + 1 - (k + 1) = L - k by omega]; exact HE.out)⟩
          case measure => simp [intOf]; omega
      · rw [hsp] at k1
        have HE := hide (show s' = goK (x.qx false true) (srch (x.qx false true) f) l (L + 1) 0 s from (goK_ended (by unfold ended; rw [hsp]; rfl) _ _).symm.trans HK2.out)
        clear hsp
        go_wp2_with fail
        go_end0
        refine ⟨rfl, ?_⟩
        rw [HGL.out, ← HE.out]
        have h := HS1.out.step l.length 0
        rw [pad_at, pad_zero hl] at h
        exact h
    · have hkL : ¬ (k : Int) ≤ L := by omega
      have HE := hide (show goK (x.qx false true) (srch (x.qx false true) f) l (L + 1 - k) k s' = s' from by rw [show L + 1 - k = 0 by omega]; rfl)
      go_wp2_with fail
      go_end0
      refine ⟨rfl, ?_⟩
      rw [HGL.out, ← HK.out, HE.out]
      have h := HS1.out.step l.length 0
      rw [pad_at, pad_zero hl] at h
      exact h
set_option maxRecDepth 100000 in
set_option maxHeartbeats 2000000 in
/-- All steps stand. -/
theorem clo_full {x : Cx} {w0 w : World} {bc b gl lc gs sc : Nat} {l : List Int} {s : S} (f : Nat) (HX : Hid (x.OK w0)) (HS : Hid (CuC x w0 bc b gl lc gs sc w l s)) (HP : Hid (Pre x.lim l)) (hl : l.length = x.zs.length) :
    Calls Tryz.prog 52 #[.pointer (some ⟨bc, 0, none⟩), .int .i64 l.length] w fun e w' => e = .returned (.tuple #[]) ∧ CuC x w0 bc b gl lc gs sc w' l (srch (x.qx false true) (f + 1) l s) := by
  have HLL := hide (show l.length = x.lim.length from by rw [x.lim_length]; exact hl)
  have HGE := hide (show srch (x.qx false true) (f + 1) l s = x.lookX true l s from srch_full (q := x.qx false true) HLL.out)
  have HST := hide (by have h := HX.out.st HP.out; rwa [pad_full hl] at h : StOK x.zs x.rs l)
  have hl8 : l.length ≤ 8 := by have := HX.out.ask.z.len8; omega
  have hl1 : 1 ≤ l.length := by have := HX.out.ask.z.len1; omega
  have HL8 := hide hl8
  have HL1 := hide hl1
  have HPC := hide (fun w' (hb : Below w.heap.size w w') => (HS.out.below hb).cu.all)
  have HPS := hide (fun w' (hb : Below w.heap.size w w') => (HS.out.below hb).cells.1)
  have C0 : ∀ w', Below w.heap.size w w' → w'.cell? ⟨bc, 0, none⟩ = some (.pointer (some ⟨b, 0, none⟩)) := fun w' hb => HPS.out w' hb
  have P2 : ∀ w', Below w.heap.size w w' → w'.cell? ⟨b, 2, none⟩ = some (.slice x.Az x.zs.length x.cz) := fun w' hb => by obtain ⟨k0, k1, k2, _⟩ := HPC.out w' hb; exact k2
  have P3 : ∀ w', Below w.heap.size w w' → w'.cell? ⟨b, 3, none⟩ = some (.slice x.Aw x.ws.length x.cw) := fun w' hb => by obtain ⟨k0, k1, k2, k3, _⟩ := HPC.out w' hb; exact k3
  have P4 : ∀ w', Below w.heap.size w w' → w'.cell? ⟨b, 4, none⟩ = some (.slice x.Ab x.bs.length x.cb) := fun w' hb => by obtain ⟨k0, k1, k2, k3, k4, _⟩ := HPC.out w' hb; exact k4
  have P5 : ∀ w', Below w.heap.size w w' → w'.cell? ⟨b, 5, none⟩ = some (.string x.nm) := fun w' hb => by obtain ⟨k0, k1, k2, k3, k4, k5, _⟩ := HPC.out w' hb; exact k5
  have P6 : ∀ w', Below w.heap.size w w' → w'.cell? ⟨b, 6, none⟩ = some (.slice x.A x.rs.length x.c) := fun w' hb => by obtain ⟨k0, k1, k2, k3, k4, k5, k6, _⟩ := HPC.out w' hb; exact k6
  have P15 : ∀ w', Below w.heap.size w w' → w'.cell? ⟨b, 15, none⟩ = some (.slice (some ⟨gs, 0, none⟩) l.length sc) := fun w' hb => by obtain ⟨k0, k1, k2, k3, k4, k5, k6, k7, k8, k9, k10, k11, k12, k13, k14, k15, _⟩ := HPC.out w' hb; rw [hl]; exact k15
  have HCT := hide (fun W (hb : Below w.heap.size w W) => by
    have hW := HX.out.below ((HS.out.below hb).bel)
    have hcon := implsoundAfter x.Az x.Aw x.Ab x.cz x.cw x.cb x.zs x.ws x.bs x.nm x.A x.c x.rs (some ⟨gs, 0, none⟩) sc l W hW.md hW.rg (OwnI.sl (HS.out.below hb).row HST.out.len.symm) hW.nm (hide hW.ask) HST
    exact hcon)
  obtain ⟨r0, hr0⟩ : ∃ r, r = ig (x.raw l) 0 := ⟨_, rfl⟩
  obtain ⟨r1, hr1⟩ : ∃ r, r = ig (x.raw l) 1 := ⟨_, rfl⟩
  obtain ⟨r2, hr2⟩ : ∃ r, r = ig (x.raw l) 2 := ⟨_, rfl⟩
  obtain ⟨r3, hr3⟩ : ∃ r, r = ig (x.raw l) 3 := ⟨_, rfl⟩
  obtain ⟨r4, hr4⟩ : ∃ r, r = ig (x.raw l) 4 := ⟨_, rfl⟩
  have HRW := hide (show [r0, r1, r2, r3, r4] = x.raw l from by rw [hr0, hr1, hr2, hr3, hr4]; exact five_eta (x.raw_length l))
  have HCT := hide (show ∀ W, Below w.heap.size w W → Calls Tryz.prog 48 #[.agg #[.slice x.Az x.zs.length x.cz, .slice x.Aw x.ws.length x.cw, .slice x.Ab x.bs.length x.cb], .agg #[.string x.nm, .slice x.A x.rs.length x.c], .slice (some ⟨gs, 0, none⟩) l.length sc] W fun e w' => e = .returned (.tuple #[.agg #[.int .i64 r0, .int .i64 r1, .int .i64 r2, .int .i64 r3, .int .i64 r4], .bool (x.snd l)]) ∧ Below W.heap.size W w' from fun W hb => by rw [hr0, hr1, hr2, hr3, hr4, hl]; exact HCT.out W hb)
  clear hr0 hr1 hr2 hr3 hr4 hl8 hl1
  have hbl := HS.out.cu.lt
  have hbcl := HS.out.lt
  have hbbc := HS.out.hbc
  obtain ⟨sb, hsb⟩ : ∃ sb, sb = x.snd l := ⟨_, rfl⟩
  rw [← hsb] at HCT
  have HSB := hide hsb
  have HLN := hide hl
  clear hsb hl
  have c0 := C0 w (Below.refl _ _)
  have c15 := P15 w (Below.refl _ _)
  go_enter Tryz.func52, Tryz.ntmps52
  go_upto_region 1 with fail
  clear c0 c15
  go_cut [4, 5] (fun s4 s5 wx => ∃ q, s4 = .pointer (some ⟨q, 0, none⟩) ∧ s5 = .bool sb ∧ Hid (wx.heap[q]? = some (.cells #[.int .i64 r0, .int .i64 r1, .int .i64 r2, .int .i64 r3, .int .i64 r4] 32 (0, 0))) ∧ Hid (Below w.heap.size w wx))
  case first =>
    refine wp_region_noPanic ?_
    refine wp_region_held_drew (S := (fun w' => Below w.heap.size w w')) (by kernel_rfl) ((Below.refl _ _).drew) (fun hHeld => ?_)
    refine wpAnyH_take (i := 0) (oi := ?o0_1) (v := ?v0_1) ?hi0_1 ?hs0_1 ?hf0_1 ?hr0_1 (fun _ _ _ h => h) ?hy0_1 (by assumption) ?hh0_1
    case hi0_1 => ((simp only [List.getElem?_toArray, List.getElem?_cons_zero]); rfl)
    case hs0_1 => kernel_rfl
    case hf0_1 => kernel_rfl
    case hr0_1 => kernel_rfl
    case hy0_1 => exact Or.inl ⟨by rfl, by (intro wq hSw; (try dsimp only at hSw); go_simp; (try with_reducible rfl))⟩
    try simp only [Act.put, List.setIfInBounds_toArray, List.set_cons_zero, List.set_cons_succ]
    refine wpAnyH_take (i := 1) (oi := ?o1_2) (v := ?v1_2) ?hi1_2 ?hs1_2 ?hf1_2 ?hr1_2 (fun _ _ _ h => h) ?hy1_2 (by assumption) ?hh1_2
    case hi1_2 => ((simp only [List.getElem?_toArray, List.getElem?_cons_succ, List.getElem?_cons_zero]); rfl)
    case hs1_2 => kernel_rfl
    case hf1_2 => kernel_rfl
    case hr1_2 => kernel_rfl
    case hy1_2 => exact Or.inl ⟨by rfl, by (intro wq hSw; (try dsimp only at hSw); go_simp; (try with_reducible rfl))⟩
    try simp only [Act.put, List.setIfInBounds_toArray, List.set_cons_zero, List.set_cons_succ]
    refine wpAnyH_take (i := 2) (oi := ?o2_3) (v := ?v2_3) ?hi2_3 ?hs2_3 ?hf2_3 ?hr2_3 (fun _ _ _ h => h) ?hy2_3 (by assumption) ?hh2_3
    case hi2_3 => ((simp only [List.getElem?_toArray, List.getElem?_cons_succ, List.getElem?_cons_zero]); rfl)
    case hs2_3 => kernel_rfl
    case hf2_3 => kernel_rfl
    case hr2_3 => kernel_rfl
    case hy2_3 => exact Or.inl ⟨by rfl, by (intro wq hSw; (try dsimp only at hSw); go_simp; (try with_reducible rfl))⟩
    try simp only [Act.put, List.setIfInBounds_toArray, List.set_cons_zero, List.set_cons_succ]
    refine wpAnyH_take (i := 3) (oi := ?o3_4) (v := ?v3_4) ?hi3_4 ?hs3_4 ?hf3_4 ?hr3_4 (fun _ _ _ h => h) ?hy3_4 (by assumption) ?hh3_4
    case hi3_4 => ((simp only [List.getElem?_toArray, List.getElem?_cons_succ, List.getElem?_cons_zero]); rfl)
    case hs3_4 => kernel_rfl
    case hf3_4 => kernel_rfl
    case hr3_4 => kernel_rfl
    case hy3_4 => exact Or.inl ⟨by rfl, by (intro wq hSw; (try dsimp only at hSw); go_simp; (try with_reducible rfl))⟩
    try simp only [Act.put, List.setIfInBounds_toArray, List.set_cons_zero, List.set_cons_succ]
    refine wpAnyH_take (i := 4) (oi := ?o4_5) (v := ?v4_5) ?hi4_5 ?hs4_5 ?hf4_5 ?hr4_5 (fun _ _ _ h => h) ?hy4_5 (by assumption) ?hh4_5
    case hi4_5 => ((simp only [List.getElem?_toArray, List.getElem?_cons_succ, List.getElem?_cons_zero]); rfl)
    case hs4_5 => kernel_rfl
    case hf4_5 => kernel_rfl
    case hr4_5 => kernel_rfl
    case hy4_5 => exact Or.inl ⟨by rfl, by (intro wq hSw; (try dsimp only at hSw); go_simp; (try with_reducible rfl))⟩
    try simp only [Act.put, List.setIfInBounds_toArray, List.set_cons_zero, List.set_cons_succ]
    refine wpAnyH_take (i := 5) (oi := ?o5_6) (v := ?v5_6) ?hi5_6 ?hs5_6 ?hf5_6 ?hr5_6 (fun _ _ _ h => h) ?hy5_6 (by assumption) ?hh5_6
    case hi5_6 => ((simp only [List.getElem?_toArray, List.getElem?_cons_succ, List.getElem?_cons_zero]); rfl)
    case hs5_6 => kernel_rfl
    case hf5_6 => kernel_rfl
    case hr5_6 => kernel_rfl
    case hy5_6 => exact Or.inl ⟨by rfl, by (intro wq hSw; (try dsimp only at hSw); go_simp; (try with_reducible rfl))⟩
    try simp only [Act.put, List.setIfInBounds_toArray, List.set_cons_zero, List.set_cons_succ]
    refine wpAnyH_take (i := 6) (oi := ?o6_7) (v := ?v6_7) ?hi6_7 ?hs6_7 ?hf6_7 ?hr6_7 (fun _ _ _ h => h) ?hy6_7 (by assumption) ?hh6_7
    case hi6_7 => ((simp only [List.getElem?_toArray, List.getElem?_cons_succ, List.getElem?_cons_zero]); rfl)
    case hs6_7 => kernel_rfl
    case hf6_7 => kernel_rfl
    case hr6_7 => kernel_rfl
    case hy6_7 => exact Or.inl ⟨by rfl, by (intro wq hSw; (try dsimp only at hSw); go_simp; (try with_reducible rfl))⟩
    try simp only [Act.put, List.setIfInBounds_toArray, List.set_cons_zero, List.set_cons_succ]
    refine wpAnyH_take (i := 7) (oi := ?o7_8) (v := ?v7_8) ?hi7_8 ?hs7_8 ?hf7_8 ?hr7_8 (fun _ _ _ h => h) ?hy7_8 (by assumption) ?hh7_8
    case hi7_8 => ((simp only [List.getElem?_toArray, List.getElem?_cons_succ, List.getElem?_cons_zero]); rfl)
    case hs7_8 => kernel_rfl
    case hf7_8 => kernel_rfl
    case hr7_8 => kernel_rfl
    case hy7_8 => exact Or.inl ⟨by rfl, by (intro wq hSw; (try dsimp only at hSw); go_simp; (try with_reducible rfl))⟩
    try simp only [Act.put, List.setIfInBounds_toArray, List.set_cons_zero, List.set_cons_succ]
    refine wpAnyH_take (i := 8) (oi := ?o8_9) (v := ?v8_9) ?hi8_9 ?hs8_9 ?hf8_9 ?hr8_9 (fun _ _ _ h => h) ?hy8_9 (by assumption) ?hh8_9
    case hi8_9 => ((simp only [List.getElem?_toArray, List.getElem?_cons_succ, List.getElem?_cons_zero]); rfl)
    case hs8_9 => kernel_rfl
    case hf8_9 => kernel_rfl
    case hr8_9 => kernel_rfl
    case hy8_9 => exact Or.inl ⟨by rfl, by (intro wq hSw; (try dsimp only at hSw); go_simp; (try with_reducible rfl))⟩
    try simp only [Act.put, List.setIfInBounds_toArray, List.set_cons_zero, List.set_cons_succ]
    refine wpAnyH_take (i := 9) (oi := ?o9_10) (v := ?v9_10) ?hi9_10 ?hs9_10 ?hf9_10 ?hr9_10 (fun _ _ _ h => h) ?hy9_10 (by assumption) ?hh9_10
    case hi9_10 => ((simp only [List.getElem?_toArray, List.getElem?_cons_succ, List.getElem?_cons_zero]); rfl)
    case hs9_10 => kernel_rfl
    case hf9_10 => kernel_rfl
    case hr9_10 => kernel_rfl
    case hy9_10 => exact Or.inl ⟨by rfl, by (intro wq hSw; (try dsimp only at hSw); go_simp; (try with_reducible rfl))⟩
    try simp only [Act.put, List.setIfInBounds_toArray, List.set_cons_zero, List.set_cons_succ]
    refine wpAnyH_take (i := 10) (oi := ?o10_11) (v := ?v10_11) ?hi10_11 ?hs10_11 ?hf10_11 ?hr10_11 (fun _ _ _ h => h) ?hy10_11 (by assumption) ?hh10_11
    case hi10_11 => ((simp only [List.getElem?_toArray, List.getElem?_cons_succ, List.getElem?_cons_zero]); rfl)
    case hs10_11 => kernel_rfl
    case hf10_11 => kernel_rfl
    case hr10_11 => kernel_rfl
    case hy10_11 => exact Or.inl ⟨by rfl, by (intro wq hSw; (try dsimp only at hSw); go_simp; (try with_reducible rfl))⟩
    try simp only [Act.put, List.setIfInBounds_toArray, List.set_cons_zero, List.set_cons_succ]
    refine wpAnyH_take (i := 11) (oi := ?o11_12) (v := ?v11_12) ?hi11_12 ?hs11_12 ?hf11_12 ?hr11_12 (fun _ _ _ h => h) ?hy11_12 (by assumption) ?hh11_12
    case hi11_12 => ((simp only [List.getElem?_toArray, List.getElem?_cons_succ, List.getElem?_cons_zero]); rfl)
    case hs11_12 => kernel_rfl
    case hf11_12 => kernel_rfl
    case hr11_12 => kernel_rfl
    case hy11_12 => exact Or.inl ⟨by rfl, by (intro wq hSw; (try dsimp only at hSw); go_simp; (try with_reducible rfl))⟩
    try simp only [Act.put, List.setIfInBounds_toArray, List.set_cons_zero, List.set_cons_succ]
    refine wpAnyH_take (i := 12) (oi := ?o12_13) (v := ?v12_13) ?hi12_13 ?hs12_13 ?hf12_13 ?hr12_13 (fun _ _ _ h => h) ?hy12_13 (by assumption) ?hh12_13
    case hi12_13 => ((simp only [List.getElem?_toArray, List.getElem?_cons_succ, List.getElem?_cons_zero]); rfl)
    case hs12_13 => kernel_rfl
    case hf12_13 => kernel_rfl
    case hr12_13 => kernel_rfl
    case hy12_13 => exact Or.inl ⟨by rfl, by (intro wq hSw; (try dsimp only at hSw); go_simp; (try with_reducible rfl))⟩
    try simp only [Act.put, List.setIfInBounds_toArray, List.set_cons_zero, List.set_cons_succ]
    refine wpAnyH_take (i := 13) (oi := ?o13_14) (v := ?v13_14) ?hi13_14 ?hs13_14 ?hf13_14 ?hr13_14 (fun _ _ _ h => h) ?hy13_14 (by assumption) ?hh13_14
    case hi13_14 => ((simp only [List.getElem?_toArray, List.getElem?_cons_succ, List.getElem?_cons_zero]); rfl)
    case hs13_14 => kernel_rfl
    case hf13_14 => kernel_rfl
    case hr13_14 => kernel_rfl
    case hy13_14 => exact Or.inl ⟨by rfl, by (intro wq hSw; (try dsimp only at hSw); go_simp; (try with_reducible rfl))⟩
    try simp only [Act.put, List.setIfInBounds_toArray, List.set_cons_zero, List.set_cons_succ]
    refine wpAnyH_take (i := 14) (oi := ?o14_15) (v := ?v14_15) ?hi14_15 ?hs14_15 ?hf14_15 ?hr14_15 (fun _ _ _ h => h) ?hy14_15 (by assumption) ?hh14_15
    case hi14_15 => ((simp only [List.getElem?_toArray, List.getElem?_cons_succ, List.getElem?_cons_zero]); rfl)
    case hs14_15 => kernel_rfl
    case hf14_15 => kernel_rfl
    case hr14_15 => kernel_rfl
    case hy14_15 => exact Or.inl ⟨by rfl, by (intro wq hSw; (try dsimp only at hSw); go_simp; (try with_reducible rfl))⟩
    try simp only [Act.put, List.setIfInBounds_toArray, List.set_cons_zero, List.set_cons_succ]
    refine wpAnyH_take (i := 15) (oi := ?o15_16) (v := ?v15_16) ?hi15_16 ?hs15_16 ?hf15_16 ?hr15_16 (fun _ _ _ h => h) ?hy15_16 (by assumption) ?hh15_16
    case hi15_16 => ((simp only [List.getElem?_toArray, List.getElem?_cons_succ, List.getElem?_cons_zero]); rfl)
    case hs15_16 => kernel_rfl
    case hf15_16 => kernel_rfl
    case hr15_16 => kernel_rfl
    case hy15_16 => exact Or.inl ⟨by rfl, by (intro wq hSw; (try dsimp only at hSw); go_simp; (try with_reducible rfl))⟩
    try simp only [Act.put, List.setIfInBounds_toArray, List.set_cons_zero, List.set_cons_succ]
    refine wpAnyH_take (i := 16) (oi := ?o16_17) (v := ?v16_17) ?hi16_17 ?hs16_17 ?hf16_17 ?hr16_17 (fun _ _ _ h => h) ?hy16_17 (by assumption) ?hh16_17
    case hi16_17 => ((simp only [List.getElem?_toArray, List.getElem?_cons_succ, List.getElem?_cons_zero]); rfl)
    case hs16_17 => kernel_rfl
    case hf16_17 => kernel_rfl
    case hr16_17 => kernel_rfl
    case hy16_17 => exact Or.inl ⟨by rfl, by (intro wq hSw; (try dsimp only at hSw); go_simp; (try with_reducible rfl))⟩
    try simp only [Act.put, List.setIfInBounds_toArray, List.set_cons_zero, List.set_cons_succ]
    refine wpAnyH_take (i := 17) (oi := ?o17_18) (v := ?v17_18) ?hi17_18 ?hs17_18 ?hf17_18 ?hr17_18 (fun _ _ _ h => h) ?hy17_18 (by assumption) ?hh17_18
    case hi17_18 => ((simp only [List.getElem?_toArray, List.getElem?_cons_succ, List.getElem?_cons_zero]); rfl)
    case hs17_18 => kernel_rfl
    case hf17_18 => kernel_rfl
    case hr17_18 => kernel_rfl
    case hy17_18 => exact Or.inl ⟨by rfl, by (intro wq hSw; (try dsimp only at hSw); go_simp; (try with_reducible rfl))⟩
    try simp only [Act.put, List.setIfInBounds_toArray, List.set_cons_zero, List.set_cons_succ]
    refine wpAnyH_take (i := 18) (oi := ?o18_19) (v := ?v18_19) ?hi18_19 ?hs18_19 ?hf18_19 ?hr18_19 (fun _ _ _ h => h) ?hy18_19 (by assumption) ?hh18_19
    case hi18_19 => ((simp only [List.getElem?_toArray, List.getElem?_cons_succ, List.getElem?_cons_zero]); rfl)
    case hs18_19 => kernel_rfl
    case hf18_19 => kernel_rfl
    case hr18_19 => kernel_rfl
    case hy18_19 => exact Or.inl ⟨by rfl, by (intro wq hSw; (try dsimp only at hSw); go_simp; (try with_reducible rfl))⟩
    try simp only [Act.put, List.setIfInBounds_toArray, List.set_cons_zero, List.set_cons_succ]
    refine wpAnyH_take (i := 19) (oi := ?o19_20) (v := ?v19_20) ?hi19_20 ?hs19_20 ?hf19_20 ?hr19_20 (fun _ _ _ h => h) ?hy19_20 (by assumption) ?hh19_20
    case hi19_20 => ((simp only [List.getElem?_toArray, List.getElem?_cons_succ, List.getElem?_cons_zero]); rfl)
    case hs19_20 => kernel_rfl
    case hf19_20 => kernel_rfl
    case hr19_20 => kernel_rfl
    case hy19_20 => exact Or.inl ⟨by rfl, by (intro wq hSw; (try dsimp only at hSw); go_simp; (try with_reducible rfl))⟩
    try simp only [Act.put, List.setIfInBounds_toArray, List.set_cons_zero, List.set_cons_succ]
    refine wpAnyH_take (i := 20) (oi := ?o20_21) (v := ?v20_21) ?hi20_21 ?hs20_21 ?hf20_21 ?hr20_21 (fun _ _ _ h => h) ?hy20_21 (by assumption) ?hh20_21
    case hi20_21 => ((simp only [List.getElem?_toArray, List.getElem?_cons_succ, List.getElem?_cons_zero]); rfl)
    case hs20_21 => kernel_rfl
    case hf20_21 => kernel_rfl
    case hr20_21 => kernel_rfl
    case hy20_21 => exact Or.inl ⟨by rfl, by (intro wq hSw; (try dsimp only at hSw); go_simp; (try with_reducible rfl))⟩
    try simp only [Act.put, List.setIfInBounds_toArray, List.set_cons_zero, List.set_cons_succ]
    refine wpAnyH_ready (rs := [21, 25]) (by kernel_rfl) (by simp) ?_
    refine AllReadyH.cons (o := ?o21_22) ?hi21_22 (fun K hK => ?hh21_22) (AllReadyH.cons (o := ?o25_23) ?hi25_23 (fun K hK => ?hh25_23) AllReadyH.nil)
    case hi21_22 => ((simp only [List.getElem?_toArray, List.getElem?_cons_succ, List.getElem?_cons_zero]); rfl)
    case hi25_23 => ((simp only [List.getElem?_toArray, List.getElem?_cons_succ, List.getElem?_cons_zero]); rfl)
    go_simp
    (go_at_call 48; refine (HCT.out _ hHeld).mono ?_; rintro e w5 ⟨rfl, hb5⟩; have HB5 := hide (hHeld.trans (hb5.mono hHeld.size)); (try (have hqr := zero5 hb5; have y0 : w5.cell? ⟨w.heap.size, 0, none⟩ = some (.int .i64 0) := (by simp [World.cell?, hqr]); have y1 : w5.cell? ⟨w.heap.size, 1, none⟩ = some (.int .i64 0) := (by simp [World.cell?, hqr]); have y2 : w5.cell? ⟨w.heap.size, 2, none⟩ = some (.int .i64 0) := (by simp [World.cell?, hqr]); have y3 : w5.cell? ⟨w.heap.size, 3, none⟩ = some (.int .i64 0) := (by simp [World.cell?, hqr]); have y4 : w5.cell? ⟨w.heap.size, 4, none⟩ = some (.int .i64 0) := (by simp [World.cell?, hqr]); have z : ∀ j, w5.frozen? ⟨w.heap.size, j, none⟩ = false := (fun j => by simp [World.frozen?, hqr]); have z0 := z 0; have z1 := z 1; have z2 := z 2; have z3 := z 3; have z4 := z 4; have HQR := hide hqr; clear hqr)))
    (try dsimp only)
    refine hK.out _ _ (HB5.out) (fun hHeld2 => ?_)
    clear hK K hHeld
    have hHeld := hHeld2
    clear hHeld2
    try simp only [Act.put, List.setIfInBounds_toArray, List.set_cons_zero, List.set_cons_succ]
    refine wpAnyH_take (i := 22) (oi := ?o22_24) (v := ?v22_24) ?hi22_24 ?hs22_24 ?hf22_24 ?hr22_24 (fun _ _ _ h => h) ?hy22_24 (by assumption) ?hh22_24
    case hi22_24 => ((simp only [List.getElem?_toArray, List.getElem?_cons_succ, List.getElem?_cons_zero]); rfl)
    case hs22_24 => kernel_rfl
    case hf22_24 => kernel_rfl
    case hr22_24 => kernel_rfl
    case hy22_24 => exact Or.inl ⟨by rfl, by (intro wq hSw; (try dsimp only at hSw); go_simp; (try with_reducible rfl))⟩
    try simp only [Act.put, List.setIfInBounds_toArray, List.set_cons_zero, List.set_cons_succ]
    refine wpAnyH_take (i := 23) (oi := ?o23_25) (v := ?v23_25) ?hi23_25 ?hs23_25 ?hf23_25 ?hr23_25 (fun _ _ _ h => h) ?hy23_25 (by assumption) ?hh23_25
    case hi23_25 => ((simp only [List.getElem?_toArray, List.getElem?_cons_succ, List.getElem?_cons_zero]); rfl)
    case hs23_25 => kernel_rfl
    case hf23_25 => kernel_rfl
    case hr23_25 => kernel_rfl
    case hy23_25 => exact Or.inl ⟨by rfl, by (intro wq hSw; (try dsimp only at hSw); go_simp; (try with_reducible rfl))⟩
    try simp only [Act.put, List.setIfInBounds_toArray, List.set_cons_zero, List.set_cons_succ]
    refine wpAnyH_take (i := 24) (oi := ?o24_26) (v := ?v24_26) ?hi24_26 ?hs24_26 ?hf24_26 ?hr24_26 (fun _ _ _ h => h) ?hy24_26 (by assumption) ?hh24_26
    case hi24_26 => ((simp only [List.getElem?_toArray, List.getElem?_cons_succ, List.getElem?_cons_zero]); rfl)
    case hs24_26 => kernel_rfl
    case hf24_26 => kernel_rfl
    case hr24_26 => kernel_rfl
    case hy24_26 => exact Or.inl ⟨by rfl, by (intro wq hSw; (try dsimp only at hSw); go_simp; (try with_reducible rfl))⟩
    try simp only [Act.put, List.setIfInBounds_toArray, List.set_cons_zero, List.set_cons_succ]
    refine wpAnyH_ready (rs := [25]) (by kernel_rfl) (by simp) ?_
    refine AllReadyH.cons (o := ?o25_27) ?hi25_27 (fun K hK => ?hh25_27) AllReadyH.nil
    case hi25_27 => ((simp only [List.getElem?_toArray, List.getElem?_cons_succ, List.getElem?_cons_zero]); rfl)
    go_simp
    refine hK.out _ _ (hHeld.alloc hHeld.size _) (fun hHeld2 => ?_)
    clear hK K hHeld
    have hHeld := hHeld2
    clear hHeld2
    try simp only [Act.put, List.setIfInBounds_toArray, List.set_cons_zero, List.set_cons_succ]
    refine wpAnyH_ready (rs := [26]) (by kernel_rfl) (by simp) ?_
    refine AllReadyH.cons (o := ?o26_28) ?hi26_28 (fun K hK => ?hh26_28) AllReadyH.nil
    case hi26_28 => ((simp only [List.getElem?_toArray, List.getElem?_cons_succ, List.getElem?_cons_zero]); rfl)
    go_simp
    refine hK.out _ _ (by first | exact HB5.out.alloc HB5.out.size _ | ((repeat (refine Below.setCell ?_ (show w.heap.size ≤ w.heap.size from Nat.le_refl _) _)); exact HB5.out)) (fun hHeld2 => ?_)
    clear hK K hHeld
    have hHeld := hHeld2
    clear hHeld2
    try simp only [Act.put, List.setIfInBounds_toArray, List.set_cons_zero, List.set_cons_succ]
    refine wpAnyH_take (i := 27) (oi := ?o27_29) (v := ?v27_29) ?hi27_29 ?hs27_29 ?hf27_29 ?hr27_29 (fun _ _ _ h => h) ?hy27_29 (by assumption) ?hh27_29
    case hi27_29 => ((simp only [List.getElem?_toArray, List.getElem?_cons_succ, List.getElem?_cons_zero]); rfl)
    case hs27_29 => kernel_rfl
    case hf27_29 => kernel_rfl
    case hr27_29 => kernel_rfl
    case hy27_29 => exact Or.inl ⟨by rfl, by (intro wq hSw; (try dsimp only at hSw); go_simp; (try with_reducible rfl))⟩
    try simp only [Act.put, List.setIfInBounds_toArray, List.set_cons_zero, List.set_cons_succ]
    refine wpAnyH_done (by kernel_rfl) ?_ _
    refine NoPanic.normal ?_
    rotate_left
    go_simp
    refine hK.out _ _ (hHeld.alloc hHeld.size _) (fun hHeld2 => ?_)
    clear hK K hHeld
    have hHeld := hHeld2
    clear hHeld2
    try simp only [Act.put, List.setIfInBounds_toArray, List.set_cons_zero, List.set_cons_succ]
    refine wpAnyH_ready (rs := [21]) (by kernel_rfl) (by simp) ?_
    refine AllReadyH.cons (o := ?o21_30) ?hi21_30 (fun K hK => ?hh21_30) AllReadyH.nil
    case hi21_30 => ((simp only [List.getElem?_toArray, List.getElem?_cons_succ, List.getElem?_cons_zero]); rfl)
    go_simp
    (go_at_call 48; refine (HCT.out _ hHeld).mono ?_; rintro e w5 ⟨rfl, hb5⟩; have HB5 := hide (hHeld.trans (hb5.mono hHeld.size)); (try (have hqr := zero5 hb5; have y0 : w5.cell? ⟨w.heap.size, 0, none⟩ = some (.int .i64 0) := (by simp [World.cell?, hqr]); have y1 : w5.cell? ⟨w.heap.size, 1, none⟩ = some (.int .i64 0) := (by simp [World.cell?, hqr]); have y2 : w5.cell? ⟨w.heap.size, 2, none⟩ = some (.int .i64 0) := (by simp [World.cell?, hqr]); have y3 : w5.cell? ⟨w.heap.size, 3, none⟩ = some (.int .i64 0) := (by simp [World.cell?, hqr]); have y4 : w5.cell? ⟨w.heap.size, 4, none⟩ = some (.int .i64 0) := (by simp [World.cell?, hqr]); have z : ∀ j, w5.frozen? ⟨w.heap.size, j, none⟩ = false := (fun j => by simp [World.frozen?, hqr]); have z0 := z 0; have z1 := z 1; have z2 := z 2; have z3 := z 3; have z4 := z 4; have HQR := hide hqr; clear hqr)))
    (try dsimp only)
    refine hK.out _ _ (HB5.out) (fun hHeld2 => ?_)
    clear hK K hHeld
    have hHeld := hHeld2
    clear hHeld2
    try simp only [Act.put, List.setIfInBounds_toArray, List.set_cons_zero, List.set_cons_succ]
    refine wpAnyH_take (i := 22) (oi := ?o22_31) (v := ?v22_31) ?hi22_31 ?hs22_31 ?hf22_31 ?hr22_31 (fun _ _ _ h => h) ?hy22_31 (by assumption) ?hh22_31
    case hi22_31 => ((simp only [List.getElem?_toArray, List.getElem?_cons_succ, List.getElem?_cons_zero]); rfl)
    case hs22_31 => kernel_rfl
    case hf22_31 => kernel_rfl
    case hr22_31 => kernel_rfl
    case hy22_31 => exact Or.inl ⟨by rfl, by (intro wq hSw; (try dsimp only at hSw); go_simp; (try with_reducible rfl))⟩
    try simp only [Act.put, List.setIfInBounds_toArray, List.set_cons_zero, List.set_cons_succ]
    refine wpAnyH_take (i := 23) (oi := ?o23_32) (v := ?v23_32) ?hi23_32 ?hs23_32 ?hf23_32 ?hr23_32 (fun _ _ _ h => h) ?hy23_32 (by assumption) ?hh23_32
    case hi23_32 => ((simp only [List.getElem?_toArray, List.getElem?_cons_succ, List.getElem?_cons_zero]); rfl)
    case hs23_32 => kernel_rfl
    case hf23_32 => kernel_rfl
    case hr23_32 => kernel_rfl
    case hy23_32 => exact Or.inl ⟨by rfl, by (intro wq hSw; (try dsimp only at hSw); go_simp; (try with_reducible rfl))⟩
    try simp only [Act.put, List.setIfInBounds_toArray, List.set_cons_zero, List.set_cons_succ]
    refine wpAnyH_take (i := 24) (oi := ?o24_33) (v := ?v24_33) ?hi24_33 ?hs24_33 ?hf24_33 ?hr24_33 (fun _ _ _ h => h) ?hy24_33 (by assumption) ?hh24_33
    case hi24_33 => ((simp only [List.getElem?_toArray, List.getElem?_cons_succ, List.getElem?_cons_zero]); rfl)
    case hs24_33 => kernel_rfl
    case hf24_33 => kernel_rfl
    case hr24_33 => kernel_rfl
    case hy24_33 => exact Or.inl ⟨by rfl, by (intro wq hSw; (try dsimp only at hSw); go_simp; (try with_reducible rfl))⟩
    try simp only [Act.put, List.setIfInBounds_toArray, List.set_cons_zero, List.set_cons_succ]
    refine wpAnyH_ready (rs := [26]) (by kernel_rfl) (by simp) ?_
    refine AllReadyH.cons (o := ?o26_34) ?hi26_34 (fun K hK => ?hh26_34) AllReadyH.nil
    case hi26_34 => ((simp only [List.getElem?_toArray, List.getElem?_cons_succ, List.getElem?_cons_zero]); rfl)
    go_simp
    refine hK.out _ _ (by first | exact HB5.out.alloc HB5.out.size _ | ((repeat (refine Below.setCell ?_ (show w.heap.size ≤ w.heap.size from Nat.le_refl _) _)); exact HB5.out)) (fun hHeld2 => ?_)
    clear hK K hHeld
    have hHeld := hHeld2
    clear hHeld2
    try simp only [Act.put, List.setIfInBounds_toArray, List.set_cons_zero, List.set_cons_succ]
    refine wpAnyH_take (i := 27) (oi := ?o27_35) (v := ?v27_35) ?hi27_35 ?hs27_35 ?hf27_35 ?hr27_35 (fun _ _ _ h => h) ?hy27_35 (by assumption) ?hh27_35
    case hi27_35 => ((simp only [List.getElem?_toArray, List.getElem?_cons_succ, List.getElem?_cons_zero]); rfl)
    case hs27_35 => kernel_rfl
    case hf27_35 => kernel_rfl
    case hr27_35 => kernel_rfl
    case hy27_35 => exact Or.inl ⟨by rfl, by (intro wq hSw; (try dsimp only at hSw); go_simp; (try with_reducible rfl))⟩
    try simp only [Act.put, List.setIfInBounds_toArray, List.set_cons_zero, List.set_cons_succ]
    refine wpAnyH_done (by kernel_rfl) ?_ _
    refine NoPanic.normal ?_
    rotate_left
    · go_wp2_with fail
      go_meet
      exact ⟨_, rfl, rfl, hide (heap_alloc_new w5 _), hide hHeld⟩
    · go_wp2_with fail
      go_meet
      exact ⟨_, rfl, rfl, hide (heap_set5 _ _ _ _ _ HQR.out), hide hHeld⟩
  case rest =>
    obtain ⟨w6, rfl⟩ : ∃ w6, w6 = wc := ⟨_, rfl⟩
    obtain ⟨q, rfl, rfl, HQ, HB6⟩ := hcut
    have hq := HQ.out
    have hql := heap_lt hq
    have HS6 := hide (HS.out.below HB6.out)
    clear C0 P2 P3 P4 P5 P6 P15
    have C0 : ∀ w', Below w6.heap.size w6 w' → w'.cell? ⟨bc, 0, none⟩ = some (.pointer (some ⟨b, 0, none⟩)) := fun w' hb => HPS.out w' (HB6.out.trans (hb.mono HB6.out.size))
    have P7 : ∀ w', Below w6.heap.size w6 w' → w'.cell? ⟨b, 7, none⟩ = some (.int .i64 x.t0) := fun w' hb => by obtain ⟨k0, k1, k2, k3, k4, k5, k6, k7, _⟩ := HPC.out w' (HB6.out.trans (hb.mono HB6.out.size)); exact k7
    have P8 : ∀ w', Below w6.heap.size w6 w' → w'.cell? ⟨b, 8, none⟩ = some (.int .i64 x.t1) := fun w' hb => by obtain ⟨k0, k1, k2, k3, k4, k5, k6, k7, k8, _⟩ := HPC.out w' (HB6.out.trans (hb.mono HB6.out.size)); exact k8
    have P9 : ∀ w', Below w6.heap.size w6 w' → w'.cell? ⟨b, 9, none⟩ = some (.int .i64 x.t2) := fun w' hb => by obtain ⟨k0, k1, k2, k3, k4, k5, k6, k7, k8, k9, _⟩ := HPC.out w' (HB6.out.trans (hb.mono HB6.out.size)); exact k9
    have P10 : ∀ w', Below w6.heap.size w6 w' → w'.cell? ⟨b, 10, none⟩ = some (.int .i64 x.t3) := fun w' hb => by obtain ⟨k0, k1, k2, k3, k4, k5, k6, k7, k8, k9, k10, _⟩ := HPC.out w' (HB6.out.trans (hb.mono HB6.out.size)); exact k10
    have P11 : ∀ w', Below w6.heap.size w6 w' → w'.cell? ⟨b, 11, none⟩ = some (.int .i64 x.t4) := fun w' hb => by obtain ⟨k0, k1, k2, k3, k4, k5, k6, k7, k8, k9, k10, k11, _⟩ := HPC.out w' (HB6.out.trans (hb.mono HB6.out.size)); exact k11
    have Y0 : ∀ w', Below w6.heap.size w6 w' → w'.cell? ⟨q, 0, none⟩ = some (.int .i64 r0) := fun w' hb => (hb.cell (p := ⟨q, 0, none⟩) hql).trans (by simp [World.cell?, hq])
    have Y1 : ∀ w', Below w6.heap.size w6 w' → w'.cell? ⟨q, 1, none⟩ = some (.int .i64 r1) := fun w' hb => (hb.cell (p := ⟨q, 1, none⟩) hql).trans (by simp [World.cell?, hq])
    have Y2 : ∀ w', Below w6.heap.size w6 w' → w'.cell? ⟨q, 2, none⟩ = some (.int .i64 r2) := fun w' hb => (hb.cell (p := ⟨q, 2, none⟩) hql).trans (by simp [World.cell?, hq])
    have Y3 : ∀ w', Below w6.heap.size w6 w' → w'.cell? ⟨q, 3, none⟩ = some (.int .i64 r3) := fun w' hb => (hb.cell (p := ⟨q, 3, none⟩) hql).trans (by simp [World.cell?, hq])
    have Y4 : ∀ w', Below w6.heap.size w6 w' → w'.cell? ⟨q, 4, none⟩ = some (.int .i64 r4) := fun w' hb => (hb.cell (p := ⟨q, 4, none⟩) hql).trans (by simp [World.cell?, hq])
    clear hq
    cases sb
    · have HE := (lookX_snd0 (s := s) (clo := true) (show dc (SoundOK (x.raw l)) = false from HSB.out.symm)).1
      have HE := hide HE
      go_wp2_with fail
      ((try simp only [Exit.inBlock, Exit.then]); refine bodyPost_ret (results_none rfl _ _ _) rfl ?_)
      exact ⟨rfl, by rw [HGE.out, HE.out]; exact HS6.out⟩
    · have hsd : dc (SoundOK (x.raw l)) = true := HSB.out.symm
      have HV := hide hsd
      have HSI := hide (show InF [r0, r1, r2, r3, r4] from by rw [HRW.out]; exact SoundOK.inF (of_dc hsd))
      have HTI := hide (show InF [x.t0, x.t1, x.t2, x.t3, x.t4] from SoundOK.inF HX.out.goal.t)
      have HDB := hide (dev_bd x HX.out l hsd)
      obtain ⟨d, hd⟩ : ∃ d, d = x.dev l := ⟨_, rfl⟩
      have hd2 : grB (devs [x.t0, x.t1, x.t2, x.t3, x.t4] [r0, r1, r2, r3, r4]) = d := by rw [hd, HRW.out]; rfl
      have HD2 := hide hd2
      have HD := hide hd
      rw [← hd] at HDB
      clear hsd hd hd2
      go_wp2_with fail
      go_cut [6] (fun s6 wx => s6 = .int .i64 d ∧ Hid (Below w6.heap.size w6 wx))
      case first =>
        refine wp_region_noPanic ?_
        refine wp_region_held_drew (S := (fun w' => Below w6.heap.size w6 w')) (by kernel_rfl) ((Below.refl _ _).drew) (fun hHeld => ?_)
        refine wpAnyH_take (i := 0) (oi := ?o0_36) (v := ?v0_36) ?hi0_36 ?hs0_36 ?hf0_36 ?hr0_36 (fun _ _ _ h => h) ?hy0_36 (by assumption) ?hh0_36
        case hi0_36 => ((simp only [List.getElem?_toArray, List.getElem?_cons_zero]); rfl)
        case hs0_36 => kernel_rfl
        case hf0_36 => kernel_rfl
        case hr0_36 => kernel_rfl
        case hy0_36 => exact Or.inl ⟨by rfl, by (intro wq hSw; (try dsimp only at hSw); go_simp; (try with_reducible rfl))⟩
        try simp only [Act.put, List.setIfInBounds_toArray, List.set_cons_zero, List.set_cons_succ]
        refine wpAnyH_take (i := 1) (oi := ?o1_37) (v := ?v1_37) ?hi1_37 ?hs1_37 ?hf1_37 ?hr1_37 (fun _ _ _ h => h) ?hy1_37 (by assumption) ?hh1_37
        case hi1_37 => ((simp only [List.getElem?_toArray, List.getElem?_cons_succ, List.getElem?_cons_zero]); rfl)
        case hs1_37 => kernel_rfl
        case hf1_37 => kernel_rfl
        case hr1_37 => kernel_rfl
        case hy1_37 => exact Or.inl ⟨by rfl, by (intro wq hSw; (try dsimp only at hSw); go_simp; (try with_reducible rfl))⟩
        try simp only [Act.put, List.setIfInBounds_toArray, List.set_cons_zero, List.set_cons_succ]
        refine wpAnyH_take (i := 2) (oi := ?o2_38) (v := ?v2_38) ?hi2_38 ?hs2_38 ?hf2_38 ?hr2_38 (fun _ _ _ h => h) ?hy2_38 (by assumption) ?hh2_38
        case hi2_38 => ((simp only [List.getElem?_toArray, List.getElem?_cons_succ, List.getElem?_cons_zero]); rfl)
        case hs2_38 => kernel_rfl
        case hf2_38 => kernel_rfl
        case hr2_38 => kernel_rfl
        case hy2_38 => exact Or.inl ⟨by rfl, by (intro wq hSw; (try dsimp only at hSw); go_simp; (try with_reducible rfl))⟩
        try simp only [Act.put, List.setIfInBounds_toArray, List.set_cons_zero, List.set_cons_succ]
        refine wpAnyH_take (i := 3) (oi := ?o3_39) (v := ?v3_39) ?hi3_39 ?hs3_39 ?hf3_39 ?hr3_39 (fun _ _ _ h => h) ?hy3_39 (by assumption) ?hh3_39
        case hi3_39 => ((simp only [List.getElem?_toArray, List.getElem?_cons_succ, List.getElem?_cons_zero]); rfl)
        case hs3_39 => kernel_rfl
        case hf3_39 => kernel_rfl
        case hr3_39 => kernel_rfl
        case hy3_39 => exact Or.inl ⟨by rfl, by (intro wq hSw; (try dsimp only at hSw); go_simp; (try with_reducible rfl))⟩
        try simp only [Act.put, List.setIfInBounds_toArray, List.set_cons_zero, List.set_cons_succ]
        refine wpAnyH_take (i := 4) (oi := ?o4_40) (v := ?v4_40) ?hi4_40 ?hs4_40 ?hf4_40 ?hr4_40 (fun _ _ _ h => h) ?hy4_40 (by assumption) ?hh4_40
        case hi4_40 => ((simp only [List.getElem?_toArray, List.getElem?_cons_succ, List.getElem?_cons_zero]); rfl)
        case hs4_40 => kernel_rfl
        case hf4_40 => kernel_rfl
        case hr4_40 => kernel_rfl
        case hy4_40 => exact Or.inl ⟨by rfl, by (intro wq hSw; (try dsimp only at hSw); go_simp; (try with_reducible rfl))⟩
        try simp only [Act.put, List.setIfInBounds_toArray, List.set_cons_zero, List.set_cons_succ]
        refine wpAnyH_take (i := 5) (oi := ?o5_41) (v := ?v5_41) ?hi5_41 ?hs5_41 ?hf5_41 ?hr5_41 (fun _ _ _ h => h) ?hy5_41 (by assumption) ?hh5_41
        case hi5_41 => ((simp only [List.getElem?_toArray, List.getElem?_cons_succ, List.getElem?_cons_zero]); rfl)
        case hs5_41 => kernel_rfl
        case hf5_41 => kernel_rfl
        case hr5_41 => kernel_rfl
        case hy5_41 => exact Or.inl ⟨by rfl, by (intro wq hSw; (try dsimp only at hSw); go_simp; (try with_reducible rfl))⟩
        try simp only [Act.put, List.setIfInBounds_toArray, List.set_cons_zero, List.set_cons_succ]
        refine wpAnyH_take (i := 6) (oi := ?o6_42) (v := ?v6_42) ?hi6_42 ?hs6_42 ?hf6_42 ?hr6_42 (fun _ _ _ h => h) ?hy6_42 (by assumption) ?hh6_42
        case hi6_42 => ((simp only [List.getElem?_toArray, List.getElem?_cons_succ, List.getElem?_cons_zero]); rfl)
        case hs6_42 => kernel_rfl
        case hf6_42 => kernel_rfl
        case hr6_42 => kernel_rfl
        case hy6_42 => exact Or.inl ⟨by rfl, by (intro wq hSw; (try dsimp only at hSw); go_simp; (try with_reducible rfl))⟩
        try simp only [Act.put, List.setIfInBounds_toArray, List.set_cons_zero, List.set_cons_succ]
        refine wpAnyH_take (i := 7) (oi := ?o7_43) (v := ?v7_43) ?hi7_43 ?hs7_43 ?hf7_43 ?hr7_43 (fun _ _ _ h => h) ?hy7_43 (by assumption) ?hh7_43
        case hi7_43 => ((simp only [List.getElem?_toArray, List.getElem?_cons_succ, List.getElem?_cons_zero]); rfl)
        case hs7_43 => kernel_rfl
        case hf7_43 => kernel_rfl
        case hr7_43 => kernel_rfl
        case hy7_43 => exact Or.inl ⟨by rfl, by (intro wq hSw; (try dsimp only at hSw); go_simp; (try with_reducible rfl))⟩
        try simp only [Act.put, List.setIfInBounds_toArray, List.set_cons_zero, List.set_cons_succ]
        refine wpAnyH_take (i := 8) (oi := ?o8_44) (v := ?v8_44) ?hi8_44 ?hs8_44 ?hf8_44 ?hr8_44 (fun _ _ _ h => h) ?hy8_44 (by assumption) ?hh8_44
        case hi8_44 => ((simp only [List.getElem?_toArray, List.getElem?_cons_succ, List.getElem?_cons_zero]); rfl)
        case hs8_44 => kernel_rfl
        case hf8_44 => kernel_rfl
        case hr8_44 => kernel_rfl
        case hy8_44 => exact Or.inl ⟨by rfl, by (intro wq hSw; (try dsimp only at hSw); go_simp; (try with_reducible rfl))⟩
        try simp only [Act.put, List.setIfInBounds_toArray, List.set_cons_zero, List.set_cons_succ]
        refine wpAnyH_ready (rs := [9]) (by kernel_rfl) (by simp) ?_
        refine AllReadyH.cons (o := ?o9_45) ?hi9_45 (fun K hK => ?hh9_45) AllReadyH.nil
        case hi9_45 => ((simp only [List.getElem?_toArray, List.getElem?_cons_succ, List.getElem?_cons_zero]); rfl)
        go_simp
        (go_at_call 50; refine (apart_is _ _ _ _ _ _ _ _ _ _ _ HTI HSI).mono ?_; rintro e w7 ⟨A7, c7, rfl, ho7, hb7⟩; have HO7 := hide (OwnI.sl ho7 rfl); have HB7 := hide (hHeld.trans (hb7.mono hHeld.size)); clear ho7 hb7)
        (try dsimp only)
        refine hK.out _ _ (HB7.out) (fun hHeld2 => ?_)
        clear hK K hHeld
        have hHeld := hHeld2
        clear hHeld2
        try simp only [Act.put, List.setIfInBounds_toArray, List.set_cons_zero, List.set_cons_succ]
        refine wpAnyH_ready (rs := [10]) (by kernel_rfl) (by simp) ?_
        refine AllReadyH.cons (o := ?o10_46) ?hi10_46 (fun K hK => ?hh10_46) AllReadyH.nil
        case hi10_46 => ((simp only [List.getElem?_toArray, List.getElem?_cons_succ, List.getElem?_cons_zero]); rfl)
        go_simp
        (go_at_call 49; refine (greatest_is A7 c7 _ _ HO7.out (by rw [devs_length]; omega) (by rw [devs_length]; omega) (hide (devs_bd HTI.out HSI.out))).mono ?_; rw [HD2.out]; rintro e w8 ⟨rfl, hb8⟩; have HB8 := hide (HB7.out.trans (hb8.mono HB7.out.size)); clear hb8)
        (try dsimp only)
        refine hK.out _ _ (HB8.out) (fun hHeld2 => ?_)
        clear hK K hHeld
        have hHeld := hHeld2
        clear hHeld2
        try simp only [Act.put, List.setIfInBounds_toArray, List.set_cons_zero, List.set_cons_succ]
        refine wpAnyH_take (i := 11) (oi := ?o11_47) (v := ?v11_47) ?hi11_47 ?hs11_47 ?hf11_47 ?hr11_47 (fun _ _ _ h => h) ?hy11_47 (by assumption) ?hh11_47
        case hi11_47 => ((simp only [List.getElem?_toArray, List.getElem?_cons_succ, List.getElem?_cons_zero]); rfl)
        case hs11_47 => kernel_rfl
        case hf11_47 => kernel_rfl
        case hr11_47 => kernel_rfl
        case hy11_47 => exact Or.inl ⟨by rfl, by (intro wq hSw; (try dsimp only at hSw); go_simp; (try with_reducible rfl))⟩
        try simp only [Act.put, List.setIfInBounds_toArray, List.set_cons_zero, List.set_cons_succ]
        refine wpAnyH_done (by kernel_rfl) ?_ _
        refine NoPanic.normal ?_
        go_wp2_with fail
        go_meet
        exact ⟨rfl, hide hHeld⟩
      case rest =>
        obtain ⟨w7, rfl⟩ : ∃ w7, w7 = wc := ⟨_, rfl⟩
        obtain ⟨rfl, HB7⟩ := hcut
        have HS7 := hide (HS6.out.below HB7.out)
        clear C0 P7 P8 P9 P10 P11 Y0 Y1 Y2 Y3 Y4 HPC HPS HCT
        have q22 : ∀ (w : World) (a : Option Addr) (n c n' c' : Nat), (binOp .eql 24 (.slice a n c) (.slice none n' c')).run Tryz.prog w = .ok (.bool a.isNone) w := fun w a n c n' c' => Lib.run_eql_slice_nil w _ _ a n c n' c' Tryz.underlying24
        obtain ⟨p0, ⟨v, p1, hv⟩, pf, fA, fc, p19, hfa, hfs⟩ := HS7.out.cells
        have HV2 := hide hv
        have hbl7 := HS7.out.cu.lt
        have hbcl7 := HS7.out.lt
        have f1 := pf 1
        have HFIND := hide (fun W A c (ho : OwnI W w7.heap.size (.slice A l.length c) l) (hb : Below w7.heap.size w7 W) => HS7.out.find ho hb HP.out HLL.out HL1.out HDB.out.1 HDB.out.2)
        have HCL := hide (fun W (hb : Below w7.heap.size w7 W) => by
          have h := cloneI w0.heap.size (some ⟨gs, 0, none⟩) sc l W (by have h := (HS7.out.below hb).row; rwa [← HLN.out] at h) (by have := HL8.out; omega)
          exact h)
        obtain ⟨k0, k1, k2, k3, k4, k5, k6, k7, k8, k9, k10, k11, k12, k13, k14, k15, k16, k17, k18, kf⟩ := HS7.out.cu.all
        rw [← HLN.out] at k15
        have g19 := kf 19
        clear k0 k1 k2 k3 k4 k5 k6 k7 k8 k9 k10 k11 k12 k13 k14 k16 k17 k18 kf pf hv
        have HSZ := hide (show w0.heap.size ≤ b from HS7.out.hb)
        by_cases hfn : s.found = []
        · have hA := hfa hfn
          subst hA
          have HE := hide (lookX_yes (s := s) HV.out (.inl (HS7.out.lf.2 hfn)))
          rw [← HD.out] at HE
          clear hfa hfs hfn
          go_wp2_with fail
          refine wp_region_noPanic ?_
          refine wp_region_held_drew (S := (fun w' => w'.cell? ⟨bc, 0, none⟩ = some (.pointer (some ⟨b, 0, none⟩)) ∧ w'.cell? ⟨b, 15, none⟩ = some (.slice (some ⟨gs, 0, none⟩) l.length sc) ∧ Below w0.heap.size w0 w')) (by kernel_rfl) (⟨p0, k15, HS7.out.bel.drew⟩) (fun hHeld => ?_)
          refine wpAnyH_take (i := 0) (oi := ?o0_48) (v := ?v0_48) ?hi0_48 ?hs0_48 ?hf0_48 ?hr0_48 (fun _ _ _ h => h) ?hy0_48 (by assumption) ?hh0_48
          case hi0_48 => ((simp only [List.getElem?_toArray, List.getElem?_cons_zero]); rfl)
          case hs0_48 => kernel_rfl
          case hf0_48 => kernel_rfl
          case hr0_48 => kernel_rfl
          case hy0_48 => exact Or.inl ⟨by rfl, by (intro wq hSw; (try dsimp only at hSw); go_simp; (try with_reducible rfl))⟩
          try simp only [Act.put, List.setIfInBounds_toArray, List.set_cons_zero, List.set_cons_succ]
          refine wpAnyH_take (i := 1) (oi := ?o1_49) (v := ?v1_49) ?hi1_49 ?hs1_49 ?hf1_49 ?hr1_49 (fun _ _ _ h => h) ?hy1_49 (by assumption) ?hh1_49
          case hi1_49 => ((simp only [List.getElem?_toArray, List.getElem?_cons_succ, List.getElem?_cons_zero]); rfl)
          case hs1_49 => kernel_rfl
          case hf1_49 => kernel_rfl
          case hr1_49 => kernel_rfl
          case hy1_49 => exact Or.inl ⟨by rfl, by (intro wq hSw; (try dsimp only at hSw); go_simp; (try with_reducible rfl))⟩
          try simp only [Act.put, List.setIfInBounds_toArray, List.set_cons_zero, List.set_cons_succ]
          refine wpAnyH_take (i := 2) (oi := ?o2_50) (v := ?v2_50) ?hi2_50 ?hs2_50 ?hf2_50 ?hr2_50 (fun _ _ _ h => h) ?hy2_50 (by assumption) ?hh2_50
          case hi2_50 => ((simp only [List.getElem?_toArray, List.getElem?_cons_succ, List.getElem?_cons_zero]); rfl)
          case hs2_50 => kernel_rfl
          case hf2_50 => kernel_rfl
          case hr2_50 => kernel_rfl
          case hy2_50 => exact Or.inl ⟨by rfl, by (intro wq hSw; (try dsimp only at hSw); go_simp; (try with_reducible rfl))⟩
          try simp only [Act.put, List.setIfInBounds_toArray, List.set_cons_zero, List.set_cons_succ]
          refine wpAnyH_take (i := 3) (oi := ?o3_51) (v := ?v3_51) ?hi3_51 ?hs3_51 ?hf3_51 ?hr3_51 (fun _ _ _ h => h) ?hy3_51 (by assumption) ?hh3_51
          case hi3_51 => ((simp only [List.getElem?_toArray, List.getElem?_cons_succ, List.getElem?_cons_zero]); rfl)
          case hs3_51 => kernel_rfl
          case hf3_51 => kernel_rfl
          case hr3_51 => kernel_rfl
          case hy3_51 => exact Or.inl ⟨by rfl, by (intro wq hSw; (try dsimp only at hSw); go_simp; (try with_reducible rfl))⟩
          try simp only [Act.put, List.setIfInBounds_toArray, List.set_cons_zero, List.set_cons_succ]
          refine wpAnyH_take (i := 4) (oi := ?o4_52) (v := ?v4_52) ?hi4_52 ?hs4_52 ?hf4_52 ?hr4_52 (fun _ _ _ h => h) ?hy4_52 (by assumption) ?hh4_52
          case hi4_52 => ((simp only [List.getElem?_toArray, List.getElem?_cons_succ, List.getElem?_cons_zero]); rfl)
          case hs4_52 => kernel_rfl
          case hf4_52 => kernel_rfl
          case hr4_52 => kernel_rfl
          case hy4_52 => exact Or.inl ⟨by rfl, by (intro wq hSw; (try dsimp only at hSw); go_simp; (try with_reducible rfl))⟩
          try simp only [Act.put, List.setIfInBounds_toArray, List.set_cons_zero, List.set_cons_succ]
          refine wpAnyH_take (i := 5) (oi := ?o5_53) (v := ?v5_53) ?hi5_53 ?hs5_53 ?hf5_53 ?hr5_53 (fun _ _ _ h => h) ?hy5_53 (by assumption) ?hh5_53
          case hi5_53 => ((simp only [List.getElem?_toArray, List.getElem?_cons_succ, List.getElem?_cons_zero]); rfl)
          case hs5_53 => kernel_rfl
          case hf5_53 => kernel_rfl
          case hr5_53 => kernel_rfl
          case hy5_53 => exact Or.inl ⟨by rfl, by (intro wq hSw; (try dsimp only at hSw); go_simp; (try with_reducible rfl))⟩
          try simp only [Act.put, List.setIfInBounds_toArray, List.set_cons_zero, List.set_cons_succ]
          refine wpAnyH_take (i := 6) (oi := ?o6_54) (v := ?v6_54) ?hi6_54 ?hs6_54 ?hf6_54 ?hr6_54 (fun _ _ _ h => h) ?hy6_54 (by assumption) ?hh6_54
          case hi6_54 => ((simp only [List.getElem?_toArray, List.getElem?_cons_succ, List.getElem?_cons_zero]); rfl)
          case hs6_54 => kernel_rfl
          case hf6_54 => kernel_rfl
          case hr6_54 => kernel_rfl
          case hy6_54 => exact Or.inl ⟨by rfl, by (intro wq hSw; (try dsimp only at hSw); go_simp; (try with_reducible rfl))⟩
          try simp only [Act.put, List.setIfInBounds_toArray, List.set_cons_zero, List.set_cons_succ]
          refine wpAnyH_take (i := 7) (oi := ?o7_55) (v := ?v7_55) ?hi7_55 ?hs7_55 ?hf7_55 ?hr7_55 (fun _ _ _ h => h) ?hy7_55 (by assumption) ?hh7_55
          case hi7_55 => ((simp only [List.getElem?_toArray, List.getElem?_cons_succ, List.getElem?_cons_zero]); rfl)
          case hs7_55 => kernel_rfl
          case hf7_55 => kernel_rfl
          case hr7_55 => kernel_rfl
          case hy7_55 => exact Or.inl ⟨by rfl, by (intro wq hSw; (try dsimp only at hSw); go_simp; (try with_reducible rfl))⟩
          try simp only [Act.put, List.setIfInBounds_toArray, List.set_cons_zero, List.set_cons_succ]
          refine wpAnyH_take (i := 8) (oi := ?o8_56) (v := ?v8_56) ?hi8_56 ?hs8_56 ?hf8_56 ?hr8_56 (fun _ _ _ h => h) ?hy8_56 (by assumption) ?hh8_56
          case hi8_56 => ((simp only [List.getElem?_toArray, List.getElem?_cons_succ, List.getElem?_cons_zero]); rfl)
          case hs8_56 => kernel_rfl
          case hf8_56 => kernel_rfl
          case hr8_56 => kernel_rfl
          case hy8_56 => exact Or.inl ⟨by rfl, by (intro wq hSw; (try dsimp only at hSw); go_simp; (try with_reducible rfl))⟩
          try simp only [Act.put, List.setIfInBounds_toArray, List.set_cons_zero, List.set_cons_succ]
          refine wpAnyH_take (i := 9) (oi := ?o9_57) (v := ?v9_57) ?hi9_57 ?hs9_57 ?hf9_57 ?hr9_57 (fun _ _ _ h => h) ?hy9_57 (by assumption) ?hh9_57
          case hi9_57 => ((simp only [List.getElem?_toArray, List.getElem?_cons_succ, List.getElem?_cons_zero]); rfl)
          case hs9_57 => kernel_rfl
          case hf9_57 => kernel_rfl
          case hr9_57 => kernel_rfl
          case hy9_57 => exact Or.inl ⟨by rfl, by (intro wq hSw; (try dsimp only at hSw); go_simp; (try with_reducible rfl))⟩
          try simp only [Act.put, List.setIfInBounds_toArray, List.set_cons_zero, List.set_cons_succ]
          refine wpAnyH_take (i := 10) (oi := ?o10_58) (v := ?v10_58) ?hi10_58 ?hs10_58 ?hf10_58 ?hr10_58 (fun _ _ _ h => h) ?hy10_58 (by assumption) ?hh10_58
          case hi10_58 => ((simp only [List.getElem?_toArray, List.getElem?_cons_succ, List.getElem?_cons_zero]); rfl)
          case hs10_58 => kernel_rfl
          case hf10_58 => kernel_rfl
          case hr10_58 => kernel_rfl
          case hy10_58 => exact Or.inl ⟨by rfl, by (intro wq hSw; (try dsimp only at hSw); go_simp; (try with_reducible rfl))⟩
          try simp only [Act.put, List.setIfInBounds_toArray, List.set_cons_zero, List.set_cons_succ]
          refine wpAnyH_take (i := 11) (oi := ?o11_59) (v := ?v11_59) ?hi11_59 ?hs11_59 ?hf11_59 ?hr11_59 (fun _ _ _ h => h) ?hy11_59 (by assumption) ?hh11_59
          case hi11_59 => ((simp only [List.getElem?_toArray, List.getElem?_cons_succ, List.getElem?_cons_zero]); rfl)
          case hs11_59 => kernel_rfl
          case hf11_59 => kernel_rfl
          case hr11_59 => kernel_rfl
          case hy11_59 => exact Or.inl ⟨by rfl, by (intro wq hSw; (try dsimp only at hSw); go_simp; (try with_reducible rfl))⟩
          try simp only [Act.put, List.setIfInBounds_toArray, List.set_cons_zero, List.set_cons_succ]
          refine wpAnyH_take (i := 13) (oi := ?o13_60) (v := ?v13_60) ?hi13_60 ?hs13_60 ?hf13_60 ?hr13_60 (fun _ _ _ h => h) ?hy13_60 (by assumption) ?hh13_60
          case hi13_60 => ((simp only [List.getElem?_toArray, List.getElem?_cons_succ, List.getElem?_cons_zero]); rfl)
          case hs13_60 => kernel_rfl
          case hf13_60 => kernel_rfl
          case hr13_60 => kernel_rfl
          case hy13_60 => exact Or.inl ⟨by rfl, by (intro wq hSw; (try dsimp only at hSw); go_simp; (try with_reducible rfl))⟩
          try simp only [Act.put, List.setIfInBounds_toArray, List.set_cons_zero, List.set_cons_succ]
          refine wpAnyH_ready (rs := [12]) (by kernel_rfl) (by simp) ?_
          refine AllReadyH.cons (o := ?o12_61) ?hi12_61 (fun K hK => ?hh12_61) AllReadyH.nil
          case hi12_61 => ((simp only [List.getElem?_toArray, List.getElem?_cons_succ, List.getElem?_cons_zero]); rfl)
          go_simp
          (go_at_call 96; refine (HCL.out _ (Below.refl _ _).drew).mono ?_; rintro e w8 ⟨A8, c8, rfl, ho8, hb8⟩; have HB8 := hide ((Below.refl w7.heap.size w7).drew.trans hb8); have HF8 := hide (HFIND.out w8 A8 c8 ho8 HB8.out); have y0 := (HB8.out.cell (p := ⟨bc, 0, none⟩) hbcl7).trans p0; have y15 := (HB8.out.cell (p := ⟨b, 15, none⟩) hbl7).trans k15; have y1 := (HB8.out.cell (p := ⟨bc, 1, none⟩) hbcl7).trans p1; have y19 := (HB8.out.cell (p := ⟨b, 19, none⟩) hbl7).trans p19; have z19 := (HB8.out.frozen (p := ⟨b, 19, none⟩) hbl7).trans g19; have z1 := (HB8.out.frozen (p := ⟨bc, 1, none⟩) hbcl7).trans f1; have HBW := hide (HS7.out.bel.trans (HB8.out.mono HS7.out.bel.size)); clear ho8 hb8)
          (try dsimp only)
          refine hK.out _ _ (⟨y0, y15, HBW.out⟩) (fun hHeld2 => ?_)
          clear hK K hHeld
          have hHeld := hHeld2
          clear hHeld2
          try simp only [Act.put, List.setIfInBounds_toArray, List.set_cons_zero, List.set_cons_succ]
          refine wpAnyH_take (i := 14) (oi := ?o14_62) (v := ?v14_62) ?hi14_62 ?hs14_62 ?hf14_62 ?hr14_62 (fun _ _ _ h => h) ?hy14_62 (by assumption) ?hh14_62
          case hi14_62 => ((simp only [List.getElem?_toArray, List.getElem?_cons_succ, List.getElem?_cons_zero]); rfl)
          case hs14_62 => kernel_rfl
          case hf14_62 => kernel_rfl
          case hr14_62 => kernel_rfl
          case hy14_62 => exact Or.inl ⟨by rfl, by (intro wq hSw; (try dsimp only at hSw); go_simp; (try with_reducible rfl))⟩
          try simp only [Act.put, List.setIfInBounds_toArray, List.set_cons_zero, List.set_cons_succ]
          refine wpAnyH_take (i := 15) (oi := ?o15_63) (v := ?v15_63) ?hi15_63 ?hs15_63 ?hf15_63 ?hr15_63 (fun _ _ _ h => h) ?hy15_63 (by assumption) ?hh15_63
          case hi15_63 => ((simp only [List.getElem?_toArray, List.getElem?_cons_succ, List.getElem?_cons_zero]); rfl)
          case hs15_63 => kernel_rfl
          case hf15_63 => kernel_rfl
          case hr15_63 => kernel_rfl
          case hy15_63 => exact Or.inl ⟨by rfl, by (intro wq hSw; (try dsimp only at hSw); go_simp; (try with_reducible rfl))⟩
          try simp only [Act.put, List.setIfInBounds_toArray, List.set_cons_zero, List.set_cons_succ]
          refine wpAnyH_ready (rs := [16]) (by kernel_rfl) (by simp) ?_
          refine AllReadyH.cons (o := ?o16_64) ?hi16_64 (fun K hK => ?hh16_64) AllReadyH.nil
          case hi16_64 => ((simp only [List.getElem?_toArray, List.getElem?_cons_succ, List.getElem?_cons_zero]); rfl)
          go_simp
          refine hK.out _ _ (⟨by go_simp, by go_simp, HBW.out.setCell HSZ.out _⟩) (fun hHeld2 => ?_)
          clear hK K hHeld
          have hHeld := hHeld2
          clear hHeld2
          try simp only [Act.put, List.setIfInBounds_toArray, List.set_cons_zero, List.set_cons_succ]
          refine wpAnyH_take (i := 17) (oi := ?o17_65) (v := ?v17_65) ?hi17_65 ?hs17_65 ?hf17_65 ?hr17_65 (fun _ _ _ h => h) ?hy17_65 (by assumption) ?hh17_65
          case hi17_65 => ((simp only [List.getElem?_toArray, List.getElem?_cons_succ, List.getElem?_cons_zero]); rfl)
          case hs17_65 => kernel_rfl
          case hf17_65 => kernel_rfl
          case hr17_65 => kernel_rfl
          case hy17_65 => exact Or.inl ⟨by rfl, by (intro wq hSw; (try dsimp only at hSw); go_simp; (try with_reducible rfl))⟩
          try simp only [Act.put, List.setIfInBounds_toArray, List.set_cons_zero, List.set_cons_succ]
          refine wpAnyH_take (i := 18) (oi := ?o18_66) (v := ?v18_66) ?hi18_66 ?hs18_66 ?hf18_66 ?hr18_66 (fun _ _ _ h => h) ?hy18_66 (by assumption) ?hh18_66
          case hi18_66 => ((simp only [List.getElem?_toArray, List.getElem?_cons_succ, List.getElem?_cons_zero]); rfl)
          case hs18_66 => kernel_rfl
          case hf18_66 => kernel_rfl
          case hr18_66 => kernel_rfl
          case hy18_66 => exact Or.inl ⟨by rfl, by (intro wq hSw; (try dsimp only at hSw); go_simp; (try with_reducible rfl))⟩
          try simp only [Act.put, List.setIfInBounds_toArray, List.set_cons_zero, List.set_cons_succ]
          refine wpAnyH_ready (rs := [19]) (by kernel_rfl) (by simp) ?_
          refine AllReadyH.cons (o := ?o19_67) ?hi19_67 (fun K hK => ?hh19_67) AllReadyH.nil
          case hi19_67 => ((simp only [List.getElem?_toArray, List.getElem?_cons_succ, List.getElem?_cons_zero]); rfl)
          go_simp
          refine hK.out _ _ (⟨by go_simp, by go_simp, (HBW.out.setCell HSZ.out _).setCell (show w0.heap.size ≤ bc by have := HSZ.out; omega) _⟩) (fun hHeld2 => ?_)
          clear hK K hHeld
          have hHeld := hHeld2
          clear hHeld2
          try simp only [Act.put, List.setIfInBounds_toArray, List.set_cons_zero, List.set_cons_succ]
          refine wpAnyH_done (by kernel_rfl) ?_ _
          refine NoPanic.normal ?_
          all_goals
            go_wp2_with fail
            ((try simp only [Exit.inBlock, Exit.then]); refine bodyPost_ret (results_none rfl _ _ _) rfl ?_)
            exact ⟨rfl, by rw [HGE.out, HE.out]; exact HF8.out⟩
        · obtain ⟨a, hA⟩ := hfs hfn
          subst hA
          have hle : 0 ≤ s.least := by
            by_cases h : s.least < 0
            · exact absurd (HS7.out.lf.1 h) hfn
            · omega
          have hvl := HV2.out hle
          subst hvl
          clear hfa hfs hfn
          by_cases hlt : d < s.least
          · have HE := hide (lookX_yes (s := s) HV.out (.inr (by rw [← HD.out]; exact hlt)))
            rw [← HD.out] at HE
            go_wp2_with fail
            refine wp_region_noPanic ?_
            refine wp_region_held_drew (S := (fun w' => w'.cell? ⟨bc, 0, none⟩ = some (.pointer (some ⟨b, 0, none⟩)) ∧ w'.cell? ⟨b, 15, none⟩ = some (.slice (some ⟨gs, 0, none⟩) l.length sc) ∧ Below w0.heap.size w0 w')) (by kernel_rfl) (⟨p0, k15, HS7.out.bel.drew⟩) (fun hHeld => ?_)
            refine wpAnyH_take (i := 0) (oi := ?o0_68) (v := ?v0_68) ?hi0_68 ?hs0_68 ?hf0_68 ?hr0_68 (fun _ _ _ h => h) ?hy0_68 (by assumption) ?hh0_68
            case hi0_68 => ((simp only [List.getElem?_toArray, List.getElem?_cons_zero]); rfl)
            case hs0_68 => kernel_rfl
            case hf0_68 => kernel_rfl
            case hr0_68 => kernel_rfl
            case hy0_68 => exact Or.inl ⟨by rfl, by (intro wq hSw; (try dsimp only at hSw); go_simp; (try with_reducible rfl))⟩
            try simp only [Act.put, List.setIfInBounds_toArray, List.set_cons_zero, List.set_cons_succ]
            refine wpAnyH_take (i := 1) (oi := ?o1_69) (v := ?v1_69) ?hi1_69 ?hs1_69 ?hf1_69 ?hr1_69 (fun _ _ _ h => h) ?hy1_69 (by assumption) ?hh1_69
            case hi1_69 => ((simp only [List.getElem?_toArray, List.getElem?_cons_succ, List.getElem?_cons_zero]); rfl)
            case hs1_69 => kernel_rfl
            case hf1_69 => kernel_rfl
            case hr1_69 => kernel_rfl
            case hy1_69 => exact Or.inl ⟨by rfl, by (intro wq hSw; (try dsimp only at hSw); go_simp; (try with_reducible rfl))⟩
            try simp only [Act.put, List.setIfInBounds_toArray, List.set_cons_zero, List.set_cons_succ]
            refine wpAnyH_take (i := 2) (oi := ?o2_70) (v := ?v2_70) ?hi2_70 ?hs2_70 ?hf2_70 ?hr2_70 (fun _ _ _ h => h) ?hy2_70 (by assumption) ?hh2_70
            case hi2_70 => ((simp only [List.getElem?_toArray, List.getElem?_cons_succ, List.getElem?_cons_zero]); rfl)
            case hs2_70 => kernel_rfl
            case hf2_70 => kernel_rfl
            case hr2_70 => kernel_rfl
            case hy2_70 => exact Or.inl ⟨by rfl, by (intro wq hSw; (try dsimp only at hSw); go_simp; (try with_reducible rfl))⟩
            try simp only [Act.put, List.setIfInBounds_toArray, List.set_cons_zero, List.set_cons_succ]
            refine wpAnyH_take (i := 3) (oi := ?o3_71) (v := ?v3_71) ?hi3_71 ?hs3_71 ?hf3_71 ?hr3_71 (fun _ _ _ h => h) ?hy3_71 (by assumption) ?hh3_71
            case hi3_71 => ((simp only [List.getElem?_toArray, List.getElem?_cons_succ, List.getElem?_cons_zero]); rfl)
            case hs3_71 => kernel_rfl
            case hf3_71 => kernel_rfl
            case hr3_71 => kernel_rfl
            case hy3_71 => exact Or.inl ⟨by rfl, by (intro wq hSw; (try dsimp only at hSw); go_simp; (try with_reducible rfl))⟩
            try simp only [Act.put, List.setIfInBounds_toArray, List.set_cons_zero, List.set_cons_succ]
            refine wpAnyH_take (i := 4) (oi := ?o4_72) (v := ?v4_72) ?hi4_72 ?hs4_72 ?hf4_72 ?hr4_72 (fun _ _ _ h => h) ?hy4_72 (by assumption) ?hh4_72
            case hi4_72 => ((simp only [List.getElem?_toArray, List.getElem?_cons_succ, List.getElem?_cons_zero]); rfl)
            case hs4_72 => kernel_rfl
            case hf4_72 => kernel_rfl
            case hr4_72 => kernel_rfl
            case hy4_72 => exact Or.inl ⟨by rfl, by (intro wq hSw; (try dsimp only at hSw); go_simp; (try with_reducible rfl))⟩
            try simp only [Act.put, List.setIfInBounds_toArray, List.set_cons_zero, List.set_cons_succ]
            refine wpAnyH_take (i := 5) (oi := ?o5_73) (v := ?v5_73) ?hi5_73 ?hs5_73 ?hf5_73 ?hr5_73 (fun _ _ _ h => h) ?hy5_73 (by assumption) ?hh5_73
            case hi5_73 => ((simp only [List.getElem?_toArray, List.getElem?_cons_succ, List.getElem?_cons_zero]); rfl)
            case hs5_73 => kernel_rfl
            case hf5_73 => kernel_rfl
            case hr5_73 => kernel_rfl
            case hy5_73 => exact Or.inl ⟨by rfl, by (intro wq hSw; (try dsimp only at hSw); go_simp; (try with_reducible rfl))⟩
            try simp only [Act.put, List.setIfInBounds_toArray, List.set_cons_zero, List.set_cons_succ]
            refine wpAnyH_take (i := 6) (oi := ?o6_74) (v := ?v6_74) ?hi6_74 ?hs6_74 ?hf6_74 ?hr6_74 (fun _ _ _ h => h) ?hy6_74 (by assumption) ?hh6_74
            case hi6_74 => ((simp only [List.getElem?_toArray, List.getElem?_cons_succ, List.getElem?_cons_zero]); rfl)
            case hs6_74 => kernel_rfl
            case hf6_74 => kernel_rfl
            case hr6_74 => kernel_rfl
            case hy6_74 => exact Or.inl ⟨by rfl, by (intro wq hSw; (try dsimp only at hSw); go_simp; (try with_reducible rfl))⟩
            try simp only [Act.put, List.setIfInBounds_toArray, List.set_cons_zero, List.set_cons_succ]
            refine wpAnyH_take (i := 7) (oi := ?o7_75) (v := ?v7_75) ?hi7_75 ?hs7_75 ?hf7_75 ?hr7_75 (fun _ _ _ h => h) ?hy7_75 (by assumption) ?hh7_75
            case hi7_75 => ((simp only [List.getElem?_toArray, List.getElem?_cons_succ, List.getElem?_cons_zero]); rfl)
            case hs7_75 => kernel_rfl
            case hf7_75 => kernel_rfl
            case hr7_75 => kernel_rfl
            case hy7_75 => exact Or.inl ⟨by rfl, by (intro wq hSw; (try dsimp only at hSw); go_simp; (try with_reducible rfl))⟩
            try simp only [Act.put, List.setIfInBounds_toArray, List.set_cons_zero, List.set_cons_succ]
            refine wpAnyH_take (i := 8) (oi := ?o8_76) (v := ?v8_76) ?hi8_76 ?hs8_76 ?hf8_76 ?hr8_76 (fun _ _ _ h => h) ?hy8_76 (by assumption) ?hh8_76
            case hi8_76 => ((simp only [List.getElem?_toArray, List.getElem?_cons_succ, List.getElem?_cons_zero]); rfl)
            case hs8_76 => kernel_rfl
            case hf8_76 => kernel_rfl
            case hr8_76 => kernel_rfl
            case hy8_76 => exact Or.inl ⟨by rfl, by (intro wq hSw; (try dsimp only at hSw); go_simp; (try with_reducible rfl))⟩
            try simp only [Act.put, List.setIfInBounds_toArray, List.set_cons_zero, List.set_cons_succ]
            refine wpAnyH_take (i := 9) (oi := ?o9_77) (v := ?v9_77) ?hi9_77 ?hs9_77 ?hf9_77 ?hr9_77 (fun _ _ _ h => h) ?hy9_77 (by assumption) ?hh9_77
            case hi9_77 => ((simp only [List.getElem?_toArray, List.getElem?_cons_succ, List.getElem?_cons_zero]); rfl)
            case hs9_77 => kernel_rfl
            case hf9_77 => kernel_rfl
            case hr9_77 => kernel_rfl
            case hy9_77 => exact Or.inl ⟨by rfl, by (intro wq hSw; (try dsimp only at hSw); go_simp; (try with_reducible rfl))⟩
            try simp only [Act.put, List.setIfInBounds_toArray, List.set_cons_zero, List.set_cons_succ]
            refine wpAnyH_take (i := 10) (oi := ?o10_78) (v := ?v10_78) ?hi10_78 ?hs10_78 ?hf10_78 ?hr10_78 (fun _ _ _ h => h) ?hy10_78 (by assumption) ?hh10_78
            case hi10_78 => ((simp only [List.getElem?_toArray, List.getElem?_cons_succ, List.getElem?_cons_zero]); rfl)
            case hs10_78 => kernel_rfl
            case hf10_78 => kernel_rfl
            case hr10_78 => kernel_rfl
            case hy10_78 => exact Or.inl ⟨by rfl, by (intro wq hSw; (try dsimp only at hSw); go_simp; (try with_reducible rfl))⟩
            try simp only [Act.put, List.setIfInBounds_toArray, List.set_cons_zero, List.set_cons_succ]
            refine wpAnyH_take (i := 11) (oi := ?o11_79) (v := ?v11_79) ?hi11_79 ?hs11_79 ?hf11_79 ?hr11_79 (fun _ _ _ h => h) ?hy11_79 (by assumption) ?hh11_79
            case hi11_79 => ((simp only [List.getElem?_toArray, List.getElem?_cons_succ, List.getElem?_cons_zero]); rfl)
            case hs11_79 => kernel_rfl
            case hf11_79 => kernel_rfl
            case hr11_79 => kernel_rfl
            case hy11_79 => exact Or.inl ⟨by rfl, by (intro wq hSw; (try dsimp only at hSw); go_simp; (try with_reducible rfl))⟩
            try simp only [Act.put, List.setIfInBounds_toArray, List.set_cons_zero, List.set_cons_succ]
            refine wpAnyH_take (i := 13) (oi := ?o13_80) (v := ?v13_80) ?hi13_80 ?hs13_80 ?hf13_80 ?hr13_80 (fun _ _ _ h => h) ?hy13_80 (by assumption) ?hh13_80
            case hi13_80 => ((simp only [List.getElem?_toArray, List.getElem?_cons_succ, List.getElem?_cons_zero]); rfl)
            case hs13_80 => kernel_rfl
            case hf13_80 => kernel_rfl
            case hr13_80 => kernel_rfl
            case hy13_80 => exact Or.inl ⟨by rfl, by (intro wq hSw; (try dsimp only at hSw); go_simp; (try with_reducible rfl))⟩
            try simp only [Act.put, List.setIfInBounds_toArray, List.set_cons_zero, List.set_cons_succ]
            refine wpAnyH_ready (rs := [12]) (by kernel_rfl) (by simp) ?_
            refine AllReadyH.cons (o := ?o12_81) ?hi12_81 (fun K hK => ?hh12_81) AllReadyH.nil
            case hi12_81 => ((simp only [List.getElem?_toArray, List.getElem?_cons_succ, List.getElem?_cons_zero]); rfl)
            go_simp
            (go_at_call 96; refine (HCL.out _ (Below.refl _ _).drew).mono ?_; rintro e w8 ⟨A8, c8, rfl, ho8, hb8⟩; have HB8 := hide ((Below.refl w7.heap.size w7).drew.trans hb8); have HF8 := hide (HFIND.out w8 A8 c8 ho8 HB8.out); have y0 := (HB8.out.cell (p := ⟨bc, 0, none⟩) hbcl7).trans p0; have y15 := (HB8.out.cell (p := ⟨b, 15, none⟩) hbl7).trans k15; have y1 := (HB8.out.cell (p := ⟨bc, 1, none⟩) hbcl7).trans p1; have y19 := (HB8.out.cell (p := ⟨b, 19, none⟩) hbl7).trans p19; have z19 := (HB8.out.frozen (p := ⟨b, 19, none⟩) hbl7).trans g19; have z1 := (HB8.out.frozen (p := ⟨bc, 1, none⟩) hbcl7).trans f1; have HBW := hide (HS7.out.bel.trans (HB8.out.mono HS7.out.bel.size)); clear ho8 hb8)
            (try dsimp only)
            refine hK.out _ _ (⟨y0, y15, HBW.out⟩) (fun hHeld2 => ?_)
            clear hK K hHeld
            have hHeld := hHeld2
            clear hHeld2
            try simp only [Act.put, List.setIfInBounds_toArray, List.set_cons_zero, List.set_cons_succ]
            refine wpAnyH_take (i := 14) (oi := ?o14_82) (v := ?v14_82) ?hi14_82 ?hs14_82 ?hf14_82 ?hr14_82 (fun _ _ _ h => h) ?hy14_82 (by assumption) ?hh14_82
            case hi14_82 => ((simp only [List.getElem?_toArray, List.getElem?_cons_succ, List.getElem?_cons_zero]); rfl)
            case hs14_82 => kernel_rfl
            case hf14_82 => kernel_rfl
            case hr14_82 => kernel_rfl
            case hy14_82 => exact Or.inl ⟨by rfl, by (intro wq hSw; (try dsimp only at hSw); go_simp; (try with_reducible rfl))⟩
            try simp only [Act.put, List.setIfInBounds_toArray, List.set_cons_zero, List.set_cons_succ]
            refine wpAnyH_take (i := 15) (oi := ?o15_83) (v := ?v15_83) ?hi15_83 ?hs15_83 ?hf15_83 ?hr15_83 (fun _ _ _ h => h) ?hy15_83 (by assumption) ?hh15_83
            case hi15_83 => ((simp only [List.getElem?_toArray, List.getElem?_cons_succ, List.getElem?_cons_zero]); rfl)
            case hs15_83 => kernel_rfl
            case hf15_83 => kernel_rfl
            case hr15_83 => kernel_rfl
            case hy15_83 => exact Or.inl ⟨by rfl, by (intro wq hSw; (try dsimp only at hSw); go_simp; (try with_reducible rfl))⟩
            try simp only [Act.put, List.setIfInBounds_toArray, List.set_cons_zero, List.set_cons_succ]
            refine wpAnyH_ready (rs := [16]) (by kernel_rfl) (by simp) ?_
            refine AllReadyH.cons (o := ?o16_84) ?hi16_84 (fun K hK => ?hh16_84) AllReadyH.nil
            case hi16_84 => ((simp only [List.getElem?_toArray, List.getElem?_cons_succ, List.getElem?_cons_zero]); rfl)
            go_simp
            refine hK.out _ _ (⟨by go_simp, by go_simp, HBW.out.setCell HSZ.out _⟩) (fun hHeld2 => ?_)
            clear hK K hHeld
            have hHeld := hHeld2
            clear hHeld2
            try simp only [Act.put, List.setIfInBounds_toArray, List.set_cons_zero, List.set_cons_succ]
            refine wpAnyH_take (i := 17) (oi := ?o17_85) (v := ?v17_85) ?hi17_85 ?hs17_85 ?hf17_85 ?hr17_85 (fun _ _ _ h => h) ?hy17_85 (by assumption) ?hh17_85
            case hi17_85 => ((simp only [List.getElem?_toArray, List.getElem?_cons_succ, List.getElem?_cons_zero]); rfl)
            case hs17_85 => kernel_rfl
            case hf17_85 => kernel_rfl
            case hr17_85 => kernel_rfl
            case hy17_85 => exact Or.inl ⟨by rfl, by (intro wq hSw; (try dsimp only at hSw); go_simp; (try with_reducible rfl))⟩
            try simp only [Act.put, List.setIfInBounds_toArray, List.set_cons_zero, List.set_cons_succ]
            refine wpAnyH_take (i := 18) (oi := ?o18_86) (v := ?v18_86) ?hi18_86 ?hs18_86 ?hf18_86 ?hr18_86 (fun _ _ _ h => h) ?hy18_86 (by assumption) ?hh18_86
            case hi18_86 => ((simp only [List.getElem?_toArray, List.getElem?_cons_succ, List.getElem?_cons_zero]); rfl)
            case hs18_86 => kernel_rfl
            case hf18_86 => kernel_rfl
            case hr18_86 => kernel_rfl
            case hy18_86 => exact Or.inl ⟨by rfl, by (intro wq hSw; (try dsimp only at hSw); go_simp; (try with_reducible rfl))⟩
            try simp only [Act.put, List.setIfInBounds_toArray, List.set_cons_zero, List.set_cons_succ]
            refine wpAnyH_ready (rs := [19]) (by kernel_rfl) (by simp) ?_
            refine AllReadyH.cons (o := ?o19_87) ?hi19_87 (fun K hK => ?hh19_87) AllReadyH.nil
            case hi19_87 => ((simp only [List.getElem?_toArray, List.getElem?_cons_succ, List.getElem?_cons_zero]); rfl)
            go_simp
            refine hK.out _ _ (⟨by go_simp, by go_simp, (HBW.out.setCell HSZ.out _).setCell (show w0.heap.size ≤ bc by have := HSZ.out; omega) _⟩) (fun hHeld2 => ?_)
            clear hK K hHeld
            have hHeld := hHeld2
            clear hHeld2
            try simp only [Act.put, List.setIfInBounds_toArray, List.set_cons_zero, List.set_cons_succ]
            refine wpAnyH_done (by kernel_rfl) ?_ _
            refine NoPanic.normal ?_
            all_goals
              go_wp2_with fail
              ((try simp only [Exit.inBlock, Exit.then]); refine bodyPost_ret (results_none rfl _ _ _) rfl ?_)
              exact ⟨rfl, by rw [HGE.out, HE.out]; exact HF8.out⟩
          · have HE := hide (lookX_no (x := x) (l := l) (s := s) (by omega) (by rw [← HD.out]; exact hlt))
            go_wp2_with fail
            ((try simp only [Exit.inBlock, Exit.then]); refine bodyPost_ret (results_none rfl _ _ _) rfl ?_)
            exact ⟨rfl, by rw [HGE.out, HE.out]; exact HS7.out⟩
end Go.Proofs.YtnefgafmnpblpaaGreat
