/- What reads a beam, on both sides, joined; the laws' marks of beams. Conditions: the text is at most 2^20 bytes long; for the program the library's variables are laid. -/
import Derived.Test.YtobcjhbfkanakaaDoorRdBeam5
import Derived.Test.YtobcjhbfkanakaaDoorRdBeamN
import Derived.Test.YtobcjhbfkanakaaDoorMarks
namespace Go.Proofs.YtobcjhbfkanakaaDoor
open Go.RowKit Go.Lib

theorem bmV_len (l : List UInt8) : (bmV l).ls.length ≤ 8 := by
  cases h : oBeam l with
  | none => rw [(bm_none h).1.out]; simp
  | some q =>
    rw [(bm_some h).1.out]
    unfold oBeam at h
    split at h
    · split at h
      · split at h
        · split at h
          · rename_i hv; injection h with h; subst h; exact (vBeam_vals hv).2.2.1
          · cases h
        · cases h
      · cases h
    · cases h
set_option maxRecDepth 100000 in
theorem specReadBeam (s : ByteArray) (w : World) (hs : s.size ≤ 1048576) :
    Calls Tryd.prog 17 #[.string s] w fun e w' => ∃ (A : Option Addr) (c : Nat), e = .returned (.tuple #[.agg #[.string (bmV s.data.toList).nm, .int .i64 (bmV s.data.toList).x1, .int .i64 (bmV s.data.toList).x2, .int .i64 (bmV s.data.toList).x3, .int .i64 (bmV s.data.toList).x4, .slice A (bmV s.data.toList).ls.length c], .bool (bmOk s.data.toList)]) ∧
      Own encLoad 2 68 w' w.heap.size (.slice A (bmV s.data.toList).ls.length c) (bmV s.data.toList).ls ∧ Below w.heap.size w w' := by
  generalize hR : bmV s.data.toList = R
  generalize hO : bmOk s.data.toList = ok
  have HR := hide hR
  have HO := hide hO
  clear hR hO
  obtain ⟨nm, x1, x2, x3, x4, ls⟩ := R
  go_enter Tryd.func17, Tryd.ntmps17
  go_wp2_with fail
  refine (specl21Read s _ hs).mono ?_
  rintro e w1 ⟨A, c, he, hO1, hb1⟩
  rw [HR.out, HO.out] at he
  rw [HR.out] at hO1
  simp only at he hO1
  subst he
  have q0 := hb1.cell (p := ⟨w.heap.size, 0, none⟩) (by simp)
  have q1 := hb1.cell (p := ⟨w.heap.size, 1, none⟩) (by simp)
  have q2 := hb1.cell (p := ⟨w.heap.size, 2, none⟩) (by simp)
  have q3 := hb1.cell (p := ⟨w.heap.size, 3, none⟩) (by simp)
  have q4 := hb1.cell (p := ⟨w.heap.size, 4, none⟩) (by simp)
  have q5 := hb1.cell (p := ⟨w.heap.size, 5, none⟩) (by simp)
  have y0 := hb1.frozen (p := ⟨w.heap.size, 0, none⟩) (by simp)
  have y1 := hb1.frozen (p := ⟨w.heap.size, 1, none⟩) (by simp)
  have y2 := hb1.frozen (p := ⟨w.heap.size, 2, none⟩) (by simp)
  have y3 := hb1.frozen (p := ⟨w.heap.size, 3, none⟩) (by simp)
  have y4 := hb1.frozen (p := ⟨w.heap.size, 4, none⟩) (by simp)
  have y5 := hb1.frozen (p := ⟨w.heap.size, 5, none⟩) (by simp)
  simp at q0 y0 q1 y1 q2 y2 q3 y3 q4 y4 q5 y5
  have HB1 := hide (Below.trans (show Below w.heap.size w (w.alloc (.cells #[.string ⟨#[]⟩, .int .i64 0, .int .i64 0, .int .i64 0, .int .i64 0, .slice none 0 0] 45)) from (by repeat (first | with_reducible exact Below.refl _ _ | with_reducible assumption | (with_reducible refine Below.drew ?_) | (with_reducible refine below_drewN ?_ _) | ((with_reducible refine Below.alloc ?_ ?_ _); rotate_left; (focus (first | omega | (simp; omega) | simp))) | ((with_reducible refine Below.setCell ?_ ?_ _); rotate_left; (focus (first | omega | (simp; omega) | simp))) | (refine Below.trans ?_ (Below.mono (by assumption) (by first | omega | (simp; omega) | simp)))))) (hb1.mono (by simp)))
  have hO2 : Own encLoad 2 68 w1 (w.heap.size + 1) (.slice A ls.length c) ls := by simpa using hO1
  have HO2 := hide hO2
  clear hb1 hO1 hO2
  go_wp2_with fail
  refine bodyPost_ret (v := .tuple #[.agg #[.string nm, .int .i64 x1, .int .i64 x2, .int .i64 x3, .int .i64 x4, .slice A ls.length c], .bool ok]) (by simp [results, Tryd.results17, go_sem, q0, q1, q2, q3, q4, q5]) rfl ⟨A, c, rfl, ?_, (by repeat (first | with_reducible exact HB1.out | with_reducible exact HB2.out | with_reducible exact HB3.out | with_reducible exact Below.refl _ _ | with_reducible assumption | (with_reducible refine Below.drew ?_) | (with_reducible refine below_drewN ?_ _) | ((with_reducible refine Below.alloc ?_ ?_ _); rotate_left; (focus (first | omega | (simp; omega) | simp))) | ((with_reducible refine Below.setCell ?_ ?_ _); rotate_left; (focus (first | omega | (simp; omega) | simp))) | (refine Below.trans ?_ (Below.mono (by assumption) (by first | omega | (simp; omega) | simp)))))⟩
  refine Own.mono (B := w.heap.size + 1) ?_ (by omega)
  iterate 6 (refine own_far (by omega) ?_ _ _)
  exact HO2.out
theorem implReadBeam (s : ByteArray) (w : World) (hE : Env w) (hs : s.size ≤ 1048576) :
    Calls Tryd.prog 18 #[.string s] w fun e w' => ∃ (A : Option Addr) (c : Nat), e = .returned (.tuple #[.agg #[.string (bmV s.data.toList).nm, .int .i64 (bmV s.data.toList).x1, .int .i64 (bmV s.data.toList).x2, .int .i64 (bmV s.data.toList).x3, .int .i64 (bmV s.data.toList).x4, .slice A (bmV s.data.toList).ls.length c], .bool (bmOk s.data.toList)]) ∧
      Own encLoad 2 68 w' w.heap.size (.slice A (bmV s.data.toList).ls.length c) (bmV s.data.toList).ls ∧ Below w.heap.size w w' := by
  by_cases h2 : (splitL 32 s.data.toList).length < 2
  · exact implRead_few s w hE hs h2
  obtain ⟨a, b, r, hsp⟩ := split_two h2
  obtain ⟨nm, rfl⟩ : ∃ nm : ByteArray, a = nm.data.toList := ⟨⟨a.toArray⟩, rfl⟩
  obtain ⟨nb, rfl⟩ : ∃ nb : ByteArray, b = nb.data.toList := ⟨⟨b.toArray⟩, rfl⟩
  by_cases h4 : (rdL nb.data.toList).length = 4
  · cases r with
    | nil => exact implRead_nil s nm nb w hE hs hsp h4
    | cons p r => exact implRead_good s nm nb (p :: r) w hE hs hsp h4 (by simp)
  · exact implRead_row s nm nb r w hE hs hsp h4
theorem lawsmarkBeam (nm : ByteArray) (x1 x2 x3 x4 : Int) (A : Option Addr) (c B : Nat) (ls : List LoadR) (k : Int) (w : World) (h : Own encLoad 2 68 w B (.slice A ls.length c) ls) (hn : ls.length ≤ 1048576) (k0 : 1 ≤ k) (k1 : k ≤ 100000000000) :
    Calls Tryd.prog 20 #[.agg #[.string nm, .int .i64 x1, .int .i64 x2, .int .i64 x3, .int .i64 x4, .slice A ls.length c], .int .i64 k] w fun e w' => e = .returned (.int .i64 (k + 2 * ls.length)) ∧ Own encLoad 2 68 w' B (.slice A ls.length c) (marksLoad k ls.length) ∧ w.grownBy w' (Value.slice A ls.length c).ownBlock := by
  have HX := hide (h.below ((Below.refl _ _).alloc (Nat.le_refl _) (.cells #[.string nm, .int .i64 x1, .int .i64 x2, .int .i64 x3, .int .i64 x4, .slice A ls.length c] 45)))
  clear h
  go_enter Tryd.func20, Tryd.ntmps20
  go_wp2_with fail
  refine (lawsmarkLoadS A c B ls k _ HX.out hn k0 k1).mono ?_
  rintro e w1 ⟨rfl, hO1, hg1⟩
  have HO1 := hide hO1
  have HG1 := hide (grown_trans (grown_of_below ((Below.refl w.heap.size w).alloc (Nat.le_refl _) _) _) hg1)
  clear hO1 hg1
  go_wp2_with fail
  go_ret
  exact ⟨rfl, HO1.out, HG1.out⟩
theorem lawsheldBeam (nm : ByteArray) (x1 x2 x3 x4 : Int) (A : Option Addr) (c B n : Nat) (k : Int) (w : World) (h : Own encLoad 2 68 w B (.slice A n c) (marksLoad k n)) (hn : n ≤ 1048576) (k0 : 1 ≤ k) (k1 : k ≤ 100000000000) :
    Calls Tryd.prog 21 #[.agg #[.string nm, .int .i64 x1, .int .i64 x2, .int .i64 x3, .int .i64 x4, .slice A n c], .int .i64 k] w fun e w' => e = .returned (.int .i64 (k + 2 * n)) ∧ Below w.heap.size w w' := by
  have HX := hide (h.below ((Below.refl _ _).alloc (Nat.le_refl _) (.cells #[.string nm, .int .i64 x1, .int .i64 x2, .int .i64 x3, .int .i64 x4, .slice A n c] 45)))
  clear h
  go_enter Tryd.func21, Tryd.ntmps21
  go_wp2_with fail
  refine (held_own_Load HX.out hn k0 k1).mono ?_
  rintro e w1 ⟨rfl, hb1⟩
  obtain ⟨fcb1, ffb1, fzb1⟩ := bfacts hb1 (by first | exact Nat.le_refl _ | omega | (simp; omega) | simp); have fsb1 := hb1.size; try simp at fcb1 ffb1 fzb1 fsb1 hb1
  go_wp2_with fail
  go_ret
  exact ⟨rfl, (by repeat (first | with_reducible exact Below.refl _ _ | with_reducible assumption | (with_reducible refine Below.drew ?_) | (with_reducible refine below_drewN ?_ _) | ((with_reducible refine Below.alloc ?_ ?_ _); rotate_left; (focus (first | omega | (simp; omega) | simp))) | ((with_reducible refine Below.setCell ?_ ?_ _); rotate_left; (focus (first | omega | (simp; omega) | simp))) | (refine Below.trans ?_ (Below.mono (by assumption) (by first | omega | (simp; omega) | simp)))))⟩
end Go.Proofs.YtobcjhbfkanakaaDoor
