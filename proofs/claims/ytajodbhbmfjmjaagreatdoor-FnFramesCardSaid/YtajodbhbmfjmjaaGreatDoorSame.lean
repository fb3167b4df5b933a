/- Contracts: whether two beams are equal, on both sides, and the law. -/
import Derived.Test.YtajodbhbmfjmjaaGreatDoorBeam2
import Derived.Laws.StructEq
import Derived.Outline
namespace Go.Proofs.YtajodbhbmfjmjaaGreatDoor
open Go.RowKit

theorem toList_ne' {a b : ByteArray} (h : a ≠ b) : (a.toList == b.toList) = false := beq_eq_false_iff_ne.2 fun q => h (by
  rw [ByteArray.toList_eq, ByteArray.toList_eq] at q
  exact ByteArray.ext (Array.ext' q))
theorem beq_false_of_ne' {a b : ByteArray} (h : a ≠ b) : (a == b) = false := by rw [beq_toListBytes]; exact toList_ne' h

noncomputable def sameBm (nm nm' : ByteArray) (a b c d a' b' c' d' : Int) (ls ls' : List LoadR) : Bool := @decide (nm = nm' ∧ a = a' ∧ b = b' ∧ c = c' ∧ d = d' ∧ ls = ls') (Classical.propDecidable _)


set_option maxHeartbeats 8000000 in
set_option maxRecDepth 100000 in
theorem specl21Same (nm nm' : ByteArray) (a b c d a' b' c' d' : Int) (A A' : Option Addr) (cp cp' : Nat) (ls ls' : List LoadR) (bl bl' : Nat) (w : World) (h : SlAt encLoad 2 w A ls) (h' : SlAt encLoad 2 w A' ls') (hn : ls.length ≤ 1048576) (hn' : ls'.length ≤ 1048576)
    (g0 : w.cell? ⟨bl, 0, none⟩ = some (.string nm)) (g1 : w.cell? ⟨bl, 1, none⟩ = some (.int .i64 a)) (g2 : w.cell? ⟨bl, 2, none⟩ = some (.int .i64 b)) (g3 : w.cell? ⟨bl, 3, none⟩ = some (.int .i64 c)) (g4 : w.cell? ⟨bl, 4, none⟩ = some (.int .i64 d)) (g5 : w.cell? ⟨bl, 5, none⟩ = some (.slice A ls.length cp))
    (g0p : w.cell? ⟨bl', 0, none⟩ = some (.string nm')) (g1p : w.cell? ⟨bl', 1, none⟩ = some (.int .i64 a')) (g2p : w.cell? ⟨bl', 2, none⟩ = some (.int .i64 b')) (g3p : w.cell? ⟨bl', 3, none⟩ = some (.int .i64 c')) (g4p : w.cell? ⟨bl', 4, none⟩ = some (.int .i64 d')) (g5p : w.cell? ⟨bl', 5, none⟩ = some (.slice A' ls'.length cp')) :
    Calls Tryz.prog 32 #[.pointer (some ⟨bl, 0, none⟩), .pointer (some ⟨bl', 0, none⟩)] w fun e w' => e = .returned (.bool (sameBm nm nm' a b c d a' b' c' d' ls ls')) ∧ ∃ n, w.drewN n = w' := by
  have HX := hide h
  have HY := hide h'
  clear h h'
  by_cases e0 : nm = nm'
  · subst e0
    have u0 : (nm.toList == nm.toList) = true := by simp
    by_cases ea : a = a'
    · subst ea
      by_cases eb : b = b'
      · subst eb
        by_cases ec : c = c'
        · subst ec
          by_cases ed : d = d'
          · subst ed
            by_cases hl : ls.length = ls'.length
            · have HL := hide hl
              have t0 : (((ls.length : Int)) != (ls'.length : Int)) = false := by simp [hl]
              clear hl
              go_enter Tryz.func32, Tryz.ntmps32
              go_wp2_with fail
              simp only [List.append]
              go_quiet (fail)
              go_wp2_with fail
              go_loopw [5] (fun v wr => ∃ k : Nat, v = .int .i64 k ∧ k ≤ ls.length ∧ (∃ n, wr = w.drewN n) ∧ Hid (∀ j, j < k → ls[j]? = ls'[j]?)) (fun v _ => ls.length - (intOf v).toNat)
              case atStart => exact ⟨0, rfl, by omega, ⟨_, rfl⟩, hide fun j hj => by omega⟩
              case round =>
                obtain ⟨k, rfl, hk, ⟨n0, rfl⟩, hj⟩ := hrel
                by_cases hlt : k < ls.length
                · have hlt' : k < ls'.length := by have := HL.out; omega
                  obtain ⟨b1, off, rfl, hbl, hc⟩ := HX.out k hlt
                  obtain ⟨b2, off2, rfl, hbl2, hd⟩ := HY.out k hlt'
                  have hc0 := hc 0 _ rfl
                  have hc1 := hc 1 _ rfl
                  have hd0 := hd 0 _ rfl
                  have hd1 := hd 1 _ rfl
                  simp only [Nat.add_zero] at hc0 hd0
                  clear hc hd
                  generalize hx : ls[k] = x at *
                  generalize hy : ls'[k] = y at *
                  obtain ⟨x0, x1⟩ := x
                  obtain ⟨y0, y1⟩ := y
                  simp only at hc0 hc1 hd0 hd1
                  have Hx := hide hx
                  have Hy := hide hy
                  clear hx hy
                  have s2 : Tryz.prog.stoodInHeld 31 = false := by kernel_rfl
                  have s3 : Tryz.prog.eqGuardType Tryz.prog.depth 31 = false := by kernel_rfl
                  by_cases e0 : x0 = y0
                  · by_cases e1 : x1 = y1
                    · subst e0; subst e1
                      have hj2 : Hid (∀ j, j < k + 1 → ls[j]? = ls'[j]?) := fun j h => by
                        by_cases e : j = k
                        · subst e
                          rw [List.getElem?_eq_getElem hlt, List.getElem?_eq_getElem hlt', Hx.out, Hy.out]
                        · exact hj.out j (by omega)
                      go_wp2_with fail
                      go_quiet (fail)
                      go_wp2_with fail
                      go_roundw
                      case rel => exact ⟨k + 1, by go_num, by omega, by first | exact ⟨_, rfl⟩ | (simp only [World.drewN_drewN]; exact ⟨_, rfl⟩), hj2⟩
                      case measure => simp [intOf]; omega
                    · have e : Hid (sameBm nm nm a b c d a b c d ls ls' = false) := dec_false fun h => by
                        have h := h.2.2.2.2.2
                        subst h
                        have := Hx.out.symm.trans Hy.out
                        injection this with _ h2
                        exact e1 h2
                      subst e0
                      have t1 : (x1 == y1) = false := by simpa using e1
                      clear e1
                      go_wp2_with fail
                      go_quiet (fail)
                      go_wp2_with fail
                      go_ret
                      exact ⟨ret_bool e.out.symm, by first | exact ⟨_, rfl⟩ | (simp only [World.drewN_drewN]; exact ⟨_, rfl⟩)⟩
                  · have e : Hid (sameBm nm nm a b c d a b c d ls ls' = false) := dec_false fun h => by
                      have h := h.2.2.2.2.2
                      subst h
                      have := Hx.out.symm.trans Hy.out
                      injection this with h2 _
                      exact e0 h2
                    have t1 : (x0 == y0) = false := by simpa using e0
                    clear e0
                    go_wp2_with fail
                    go_quiet (fail)
                    go_wp2_with fail
                    go_ret
                    exact ⟨ret_bool e.out.symm, by first | exact ⟨_, rfl⟩ | (simp only [World.drewN_drewN]; exact ⟨_, rfl⟩)⟩
                · have e : Hid (sameBm nm nm a b c d a b c d ls ls' = true) := dec_true ⟨rfl, rfl, rfl, rfl, rfl, List.ext_getElem? fun j => by
                    by_cases h : j < ls.length
                    · exact hj.out j (by omega)
                    · rw [List.getElem?_eq_none (by omega), List.getElem?_eq_none (by have := HL.out; omega)]⟩
                  go_wp2_with fail
                  go_ret
                  exact ⟨ret_bool e.out.symm, _, rfl⟩
            · have e : Hid (sameBm nm nm a b c d a b c d ls ls' = false) := dec_false fun h => hl (by rw [h.2.2.2.2.2])
              have t0 : (((ls.length : Int)) != (ls'.length : Int)) = true := by simp; omega
              clear hl
              go_enter Tryz.func32, Tryz.ntmps32
              go_wp2_with fail
              simp only [List.append]
              go_quiet (fail)
              go_wp2_with fail
              go_ret
              exact ⟨ret_bool e.out.symm, by first | exact ⟨_, rfl⟩ | (simp only [World.drewN_drewN]; exact ⟨_, rfl⟩)⟩
          · have e : Hid (sameBm nm nm a b c d a b c d' ls ls' = false) := dec_false fun h => ed (by exact h.2.2.2.2.1)
            have t1 : (d == d') = false := by simpa using ed
            have t2 : (d != d') = true := by simpa using ed
            clear ed
            go_enter Tryz.func32, Tryz.ntmps32
            go_wp2_with fail
            simp only [List.append]
            go_quiet (fail)
            go_wp2_with fail
            go_ret
            exact ⟨ret_bool e.out.symm, by first | exact ⟨_, rfl⟩ | (simp only [World.drewN_drewN]; exact ⟨_, rfl⟩)⟩
        · have e : Hid (sameBm nm nm a b c d a b c' d' ls ls' = false) := dec_false fun h => ec (by exact h.2.2.2.1)
          have t1 : (c == c') = false := by simpa using ec
          have t2 : (c != c') = true := by simpa using ec
          clear ec
          go_enter Tryz.func32, Tryz.ntmps32
          go_wp2_with fail
          simp only [List.append]
          go_quiet (fail)
          go_wp2_with fail
          go_ret
          exact ⟨ret_bool e.out.symm, by first | exact ⟨_, rfl⟩ | (simp only [World.drewN_drewN]; exact ⟨_, rfl⟩)⟩
      · have e : Hid (sameBm nm nm a b c d a b' c' d' ls ls' = false) := dec_false fun h => eb (by exact h.2.2.1)
        have t1 : (b == b') = false := by simpa using eb
        have t2 : (b != b') = true := by simpa using eb
        clear eb
        go_enter Tryz.func32, Tryz.ntmps32
        go_wp2_with fail
        simp only [List.append]
        go_quiet (fail)
        go_wp2_with fail
        go_ret
        exact ⟨ret_bool e.out.symm, by first | exact ⟨_, rfl⟩ | (simp only [World.drewN_drewN]; exact ⟨_, rfl⟩)⟩
    · have e : Hid (sameBm nm nm a b c d a' b' c' d' ls ls' = false) := dec_false fun h => ea (by exact h.2.1)
      have t1 : (a == a') = false := by simpa using ea
      have t2 : (a != a') = true := by simpa using ea
      clear ea
      go_enter Tryz.func32, Tryz.ntmps32
      go_wp2_with fail
      simp only [List.append]
      go_quiet (fail)
      go_wp2_with fail
      go_ret
      exact ⟨ret_bool e.out.symm, by first | exact ⟨_, rfl⟩ | (simp only [World.drewN_drewN]; exact ⟨_, rfl⟩)⟩
  · have e : Hid (sameBm nm nm' a b c d a' b' c' d' ls ls' = false) := dec_false fun h => e0 h.1
    have t1 : (nm == nm') = false := beq_false_of_ne' e0
    have t2 : (nm.toList == nm'.toList) = false := toList_ne' e0
    clear e0
    go_enter Tryz.func32, Tryz.ntmps32
    go_wp2_with fail
    simp only [List.append]
    go_quiet (fail)
    go_wp2_with fail
    go_ret
    exact ⟨ret_bool e.out.symm, by first | exact ⟨_, rfl⟩ | (simp only [World.drewN_drewN]; exact ⟨_, rfl⟩)⟩
theorem specSameBeam (nm nm' : ByteArray) (a b c d a' b' c' d' : Int) (A A' : Option Addr) (cp cp' : Nat) (ls ls' : List LoadR) (w : World) (h : SlAt encLoad 2 w A ls) (h' : SlAt encLoad 2 w A' ls') (hn : ls.length ≤ 1048576) (hn' : ls'.length ≤ 1048576) :
    Calls Tryz.prog 12 #[.agg #[.string nm, .int .i64 a, .int .i64 b, .int .i64 c, .int .i64 d, .slice A ls.length cp], .agg #[.string nm', .int .i64 a', .int .i64 b', .int .i64 c', .int .i64 d', .slice A' ls'.length cp']] w fun e w' => e = .returned (.bool (sameBm nm nm' a b c d a' b' c' d' ls ls')) ∧ Below w.heap.size w w' := by
  have HX := hide h
  have HY := hide h'
  clear h h'
  go_enter Tryz.func12, Tryz.ntmps12
  go_wp2_with fail
  refine (specl21Same nm nm' a b c d a' b' c' d' A A' cp cp' ls ls' _ _ _ (HX.out.below (by repeat (first | with_reducible exact Below.refl _ _ | with_reducible assumption | (with_reducible refine Below.drew ?_) | (with_reducible refine below_drewN ?_ _) | ((with_reducible refine Below.alloc ?_ ?_ _); rotate_left; (focus (first | omega | (simp; omega) | simp))) | ((with_reducible refine Below.setCell ?_ ?_ _); rotate_left; (focus (first | omega | (simp; omega) | simp))) | (refine Below.trans ?_ (Below.mono (by assumption) (by first | omega | (simp; omega) | simp)))))) (HY.out.below (by repeat (first | with_reducible exact Below.refl _ _ | with_reducible assumption | (with_reducible refine Below.drew ?_) | (with_reducible refine below_drewN ?_ _) | ((with_reducible refine Below.alloc ?_ ?_ _); rotate_left; (focus (first | omega | (simp; omega) | simp))) | ((with_reducible refine Below.setCell ?_ ?_ _); rotate_left; (focus (first | omega | (simp; omega) | simp))) | (refine Below.trans ?_ (Below.mono (by assumption) (by first | omega | (simp; omega) | simp)))))) hn hn' (by simp) (by simp) (by simp) (by simp) (by simp) (by simp) (by simp) (by simp) (by simp) (by simp) (by simp) (by simp)).mono ?_
  rintro e w1 ⟨rfl, n1, rfl⟩
  go_wp2_with fail
  go_ret
  exact ⟨rfl, (by repeat (first | with_reducible exact Below.refl _ _ | with_reducible assumption | (with_reducible refine Below.drew ?_) | (with_reducible refine below_drewN ?_ _) | ((with_reducible refine Below.alloc ?_ ?_ _); rotate_left; (focus (first | omega | (simp; omega) | simp))) | ((with_reducible refine Below.setCell ?_ ?_ _); rotate_left; (focus (first | omega | (simp; omega) | simp))) | (refine Below.trans ?_ (Below.mono (by assumption) (by first | omega | (simp; omega) | simp)))))⟩
end Go.Proofs.YtajodbhbmfjmjaaGreatDoor
