/- ClashesOf and IsClear on both sides; their laws' walks. -/
import Derived.Test.YtjklhacffdhgaaaClash
namespace Go.Proofs.Ytjklhacffdhgaaa
open Go.RowKit

theorem two_small {ls : List (List Int)} (h : ∀ l ∈ ls, l.length = 2) : ∀ l ∈ ls, l.length ≤ 1048576 := fun l hl => by rw [h l hl]; omega
theorem two_tot {ls : List (List Int)} (h : ∀ l ∈ ls, l.length = 2) (hn : ls.length ≤ 1048576) : totL ls ≤ 100000000 := by rw [totL_two h]; omega
theorem heldAtLL {w : World} {B N c : Nat} {A : Option Addr} {vs : List Value} {ls : List (List Int)} {k : Int} (h : LL w B N (.slice A ls.length c) vs (marksLL k ls)) : SSAt w A (marksLL k ls) :=
  LL.at_ (c := c) (B := B) (N := N) (vs := vs) (by rw [marksLL_length]; exact h)
/-- A slice of slices of the call's own and a code. -/
def LLRes (P : List (List Int) → Int → Prop) (w : World) (e : Ending) (w' : World) : Prop :=
  ∃ (A : Option Addr) (c : Nat) (vs : List Value) (ls : List (List Int)) (code : Int), e = .returned (.tuple #[.slice A ls.length c, .int .i64 code]) ∧ P ls code ∧ ls.length ≤ 1048576 ∧ (∀ l ∈ ls, l.length = 2) ∧ LL w' w.heap.size w'.heap.size (.slice A ls.length c) vs ls ∧ Below w.heap.size w w'
theorem llRes_nil {P : List (List Int) → Int → Prop} {w w' : World} {code : Int} (h : P [] code) (hb : Below w.heap.size w w') : LLRes P w (.returned (.tuple #[.slice none 0 0, .int .i64 code])) w' :=
  ⟨none, 0, [], [], code, rfl, h, by simp, by simp, LL.nil _ _, hb⟩
theorem LL.here {w : World} {B N : Nat} {v : Value} {vs : List Value} {ls : List (List Int)} (h : LL w B N v vs ls) : LL w B w.heap.size v vs ls :=
  ⟨h.len, h.outer, fun b a => (h.outer.lt b a).2, fun i u l a b => ⟨(h.inner i u l a b).1, fun c d => ((h.inner i u l a b).1.lt c d).2⟩, h.apart⟩
@[irreducible] noncomputable def clOf (xs : List PlaceR) (g : Int) : List (List Int) × Int := if rowsB vPlaceR PlaceR.nm 24 xs then (if inB g 0 5000 then (allF xs g xs.length, 0) else ([], 2)) else ([], 1)
theorem allF_small {xs : List PlaceR} (g : Int) (h : xs.length ≤ 24) : (allF xs g xs.length).length ≤ 1000 := by
  have a := allF_len xs g xs.length
  have d : xs.length * xs.length ≤ 24 * 24 := Nat.mul_le_mul h h
  omega
theorem beq_len (n : Nat) : ((n : Int) == 0) = decide (n = 0) := by by_cases h : n = 0 <;> simp [h]
/-- Whether all places are within a chamber and none are too near. -/
@[irreducible] noncomputable def clearB (a b c g : Int) (xs : List PlaceR) : Bool := vCh a b c && rowsB vPlaceR PlaceR.nm 24 xs && inB g 0 5000 && decide ((outsN a b c g 0 xs).length = 0) && decide ((allF xs g xs.length).length = 0)
set_option maxRecDepth 100000 in
theorem implIsClear (a b c : Int) (A : Option Addr) (cp : Nat) (xs : List PlaceR) (g : Int) (w : World) (h : SlAt encPlace 5 w A xs) (hn : xs.length ≤ 1048576) (hx : ∀ x ∈ xs, x.nm.size ≤ maxLen) :
    Calls Try.prog 63 #[.agg #[.int .i64 a, .int .i64 b, .int .i64 c], .slice A xs.length cp, .int .i64 g] w fun e w' => e = .returned (.bool (clearB a b c g xs)) ∧ Below w.heap.size w w' := by
  have hbW : Below w.heap.size w (w.alloc (.cells #[.int .i64 a, .int .i64 b, .int .i64 c] 86)) := (by repeat (first | with_reducible exact Below.refl _ _ | with_reducible assumption | (with_reducible refine Below.drew ?_) | (with_reducible refine below_drewN ?_ _) | ((with_reducible refine Below.alloc ?_ ?_ _); rotate_left; (focus (first | omega | (simp; omega) | simp))) | ((with_reducible refine Below.setCell ?_ ?_ _); rotate_left; (focus (first | omega | (simp; omega) | simp))) | (refine Below.trans ?_ (Below.mono (by assumption) (by first | omega | (simp; omega) | simp)))))
  have HX := hide (h.below hbW)
  have HBW := hide hbW
  have HS := hide hx
  clear h hx hbW
  by_cases hgood : vCh a b c = true ∧ rowsB vPlaceR PlaceR.nm 24 xs = true ∧ inB g 0 5000 = true
  · obtain ⟨h1, h2, h3⟩ := hgood
    have e : Hid (clearB a b c g xs = (decide ((outsN a b c g 0 xs).length = 0) && decide ((allF xs g xs.length).length = 0))) := by unfold Hid clearB; simp [h1, h2, h3]
    have eo := hide (outOf_4 h1 h2 h3)
    obtain ⟨rv, rl, -⟩ := rowsB_all h2
    have RV := hide rv
    clear rv h1 h2 h3
    go_enter Try.func63, Try.ntmps63
    go_wp2_with fail
    refine (implOutsideOf a b c A cp xs g _ HX.out hn HS.out).mono ?_
    rintro e1 w1 ⟨A1, c1, ys, code, rfl, hR, hy, hO, hb1⟩
    obtain ⟨rfl, rfl⟩ := pair_det eo.out hR
    have z1 := hb1.size
    have HX1 := hide (HX.out.below hb1)
    have HB1 := hide (HBW.out.trans (hb1.mono (by simp)))
    clear hb1 hO hR
    by_cases h0 : (outsN a b c g 0 xs).length = 0
    · have t0 : (((outsN a b c g 0 xs).length : Int) == 0) = true := by simp [h0]
      have H0 := hide h0
      clear h0
      go_wp2_with fail
      refine (implclashes A cp xs g _ HX1.out rl RV.out).mono ?_
      rintro e2 w2 ⟨A2, c2, vs2, rfl, -, hb2⟩
      have HB2 := hide (HB1.out.trans (hb2.mono HB1.out.size))
      clear hb2
      go_wp2_with fail
      go_ret
      exact ⟨ret_bool (by rw [e.out, H0.out, beq_len]; rfl), HB2.out⟩
    · have t0 : (((outsN a b c g 0 xs).length : Int) == 0) = false := by simp; intro q; simp [q] at h0
      have H0 := hide h0
      clear h0
      go_wp2_with fail
      go_ret
      exact ⟨ret_bool (by rw [e.out]; simp [H0.out]), HB1.out⟩
  · have e : Hid (clearB a b c g xs = false) := by
      unfold Hid clearB
      cases h1 : vCh a b c <;> cases h2 : rowsB vPlaceR PlaceR.nm 24 xs <;> cases h3 : inB g 0 5000 <;> simp_all
    have eo : Hid (∃ code : Int, (code == 0) = false ∧ outOf a b c g xs = ([], code)) := by
      unfold Hid
      cases h1 : vCh a b c
      · exact ⟨1, rfl, outOf_1 h1⟩
      · cases h2 : rowsB vPlaceR PlaceR.nm 24 xs
        · exact ⟨1, rfl, outOf_2 h2⟩
        · cases h3 : inB g 0 5000
          · exact ⟨2, rfl, outOf_3 h1 h2 h3⟩
          · exact absurd ⟨h1, h2, h3⟩ hgood
    clear hgood
    go_enter Try.func63, Try.ntmps63
    go_wp2_with fail
    refine (implOutsideOf a b c A cp xs g _ HX.out hn HS.out).mono ?_
    rintro e1 w1 ⟨A1, c1, ys, code, rfl, hR, hy, hO, hb1⟩
    obtain ⟨code', hc, eo⟩ := eo.out
    obtain ⟨rfl, rfl⟩ := pair_det eo hR
    have HB1 := hide (HBW.out.trans (hb1.mono (by simp)))
    clear hb1 hO hR eo
    go_wp2_with fail
    go_ret
    exact ⟨ret_bool e.out.symm, HB1.out⟩
end Go.Proofs.Ytjklhacffdhgaaa
