/- Rows of numbers of the call's own: copied, cut short, appended to. -/
import Derived.Test.YtnefgafmnpblpaaGreatInts
import Derived.Laws.AppendOwnNone
import Derived.Maps.AppendAt
namespace Go.Proofs.YtnefgafmnpblpaaGreat
open Go.RowKit

theorem encI_one (x : Int) : ∀ u ∈ encI x, u.oneCell' = true := by intro u hu; simp at hu; subst hu; rfl
set_option maxRecDepth 100000 in
/-- An append of all numbers of a row of the call's own, nil let in. -/
theorem wpList_appIs {w : World} {ops : Array Oper} {rest : List Oper} {o : Oper} {a : Act} {Q : Exit → Act → World → Prop} (hgd : o.guard = none) (s x : Operand)
    (ho : o.op = .call { callee := .builtin .append, args := #[s, x], argTypes := #[24, 24] }) (B B2 : Nat) {v : Value} {xs ys : List Int} (hs : a.eval s = v) (hown : OwnI w B v xs) {A2 : Option Addr} {c2 : Nat}
    (hx : a.eval x = .slice A2 ys.length c2) (hy : OwnI w B2 (.slice A2 ys.length c2) ys) (hn : xs.length + ys.length ≤ 1048577) (hB : B ≤ w.heap.size)
    (h : ∀ (A : Option Addr) (c : Nat) (w' : World), OwnI w' B (.slice A (xs.length + ys.length) c) (xs ++ ys) → Below B w w' → w.grownBy w' v.ownBlock → wpList Tryz.prog ops Q rest (a.put o.dst (.slice A (xs.length + ys.length) c)) w') : wpList Tryz.prog ops Q (o :: rest) a w := by
  obtain ⟨i0, hi, hz0, hz1, hz2⟩ := info_parts info_i64
  rcases hy.2 with ⟨e1, e2⟩ | ⟨g, cap, cur, e1, _⟩
  · injection e1 with e3 e4 e5
    subst e3; subst e5
    have hl : ys = [] := List.eq_nil_of_length_eq_zero e4
    subst hl
    obtain ⟨A, c, rfl⟩ := hown.slice
    refine wpList_append_own_none hgd s x 24 ho B 2 i0 1 Tryz.underlying24 hi _ xs.length (xs.flatMap encI) hs hown hx ?_
    have := h A c w (by rw [List.append_nil]; exact hown) (Below.refl _ _) (World.grownBy.refl _ _)
    simpa using this
  · injection e1 with e3 e4 e5
    subst e3
    exact wpList_appAll (sz := 1) (bytes := 8) Tryz.underlying24 hi hz0 hz1 hz2 rfl (by omega) (by omega) (fun _ => rfl) encI_one hgd s x ho B hs hown hx (hy.at_ (fun _ => rfl)) hn hB h
/-- A copy of a row: where it lies. -/
def CopyI (ys : List Int) (w : World) (e : Ending) (w' : World) : Prop := ∃ (A : Option Addr) (c : Nat), e = .returned (.slice A ys.length c) ∧ OwnI w' w.heap.size (.slice A ys.length c) ys ∧ Below w.heap.size w w'
set_option maxRecDepth 100000 in
theorem cloneI (B : Nat) (A : Option Addr) (c : Nat) (ys : List Int) (w : World) (h : OwnI w B (.slice A ys.length c) ys) (hn : ys.length ≤ 100000) :
    Calls Tryz.prog 96 #[.slice A ys.length c] w (CopyI ys w) := by
  have q22 : ∀ (w : World) (a : Option Addr) (n c n' c' : Nat), (binOp .eql 24 (.slice a n c) (.slice none n' c')).run Tryz.prog w = .ok (.bool a.isNone) w := fun w a n c n' c' => Lib.run_eql_slice_nil w _ _ a n c n' c' Tryz.underlying24
  rcases h.2 with ⟨e1, e2⟩ | ⟨g, cap, cur, e1, _⟩
  · injection e1 with e3 e4 e5
    subst e3; subst e5
    have hl : ys = [] := List.eq_nil_of_length_eq_zero e4
    subst hl
    clear h hn e2 e4
    go_enter Tryz.func96, Tryz.ntmps96
    go_wp2_with fail
    go_ret
    exact ⟨none, 0, rfl, Own.nil, Below.refl _ _⟩
  · injection e1 with e3 e4 e5
    subst e3
    clear e4 e5
    have H := hide (h.below (w' := w.alloc (.cells #[] 2)) ((Below.refl _ _).alloc (Nat.le_refl _) _))
    have H0 := hide (own_made (enc := encI) (sz := 1) (T := 2) w rfl (Nat.le_refl _))
    clear h
    go_enter Tryz.func96, Tryz.ntmps96
    go_wp2_with (at_builtin; refine wpList_appIs (xs := []) rfl _ _ rfl w.heap.size B rfl H0.out rfl H.out (by simp; omega) (by simp) ?_; intro A1 c1 w1 ho1 hb1 _hg1; have HO := hide ho1; have HB := hide (Below.trans ((Below.refl w.heap.size w).alloc (Nat.le_refl _) (.cells #[] 2)) hb1); clear ho1 hb1)
    go_ret
    exact ⟨A1, c1, by simp, by simpa using HO.out, HB.out⟩
set_option maxRecDepth 100000 in
theorem specl00Own (B : Nat) (A : Option Addr) (c : Nat) (ys : List Int) (w : World) (h : OwnI w B (.slice A ys.length c) ys) (hn : ys.length ≤ 100000) :
    Calls Tryz.prog 137 #[.slice A ys.length c] w (CopyI ys w) := by
  have H := hide (h.below (w' := w.alloc (.cells #[] 2)) ((Below.refl _ _).alloc (Nat.le_refl _) _))
  have H0 := hide (own_made (enc := encI) (sz := 1) (T := 2) w rfl (Nat.le_refl _))
  clear h
  go_enter Tryz.func137, Tryz.ntmps137
  go_wp2_with (at_builtin; refine wpList_appIs (xs := []) rfl _ _ rfl w.heap.size B rfl H0.out rfl H.out (by simp; omega) (by simp) ?_; intro A1 c1 w1 ho1 hb1 _hg1; have HO := hide ho1; have HB := hide (Below.trans ((Below.refl w.heap.size w).alloc (Nat.le_refl _) (.cells #[] 2)) hb1); clear ho1 hb1)
  go_ret
  exact ⟨A1, c1, by simp, by simpa using HO.out, HB.out⟩
/-- A row cut short. -/
theorem own_short {α : Type} {enc : α → List Value} {sz : Nat} {T : TypeId} {w : World} {B c n : Nat} {A : Option Addr} {xs ys : List α} (he : ∀ x, (enc x).length = sz) (h : Own enc sz T w B (.slice A n c) (xs ++ ys)) (hn : n = (xs ++ ys).length) : Own enc sz T w B (.slice A xs.length c) xs := by
  subst hn
  obtain ⟨h1, h2⟩ := h
  refine ⟨flat_length he xs, ?_⟩
  rcases h2 with ⟨e1, e2⟩ | ⟨g, cap, cur, e1, e2, e3, e4, e5, e6, e7⟩
  · injection e1 with q1 q2 q3
    have : xs.length = 0 := by rw [List.length_append] at q2; omega
    exact .inl ⟨by rw [q1, q3, this], this⟩
  · injection e1 with q1 q2 q3
    refine .inr ⟨g, cap, cur, by rw [q1, q3], e2, e3, by rw [List.length_append] at e4; omega, e5, e6, ?_⟩
    rw [List.flatMap_append] at e7
    have hl := flat_length he xs
    have hm : xs.length * sz ≤ (xs ++ ys).length * sz := Nat.mul_le_mul_right _ (by rw [List.length_append]; omega)
    have e8 : cur.toList.take (xs.length * sz) = (cur.toList.take ((xs ++ ys).length * sz)).take (xs.length * sz) := by rw [List.take_take, Nat.min_eq_left hm]
    rw [e8, e7, ← hl]
    exact List.take_left
end Go.Proofs.YtnefgafmnpblpaaGreat
