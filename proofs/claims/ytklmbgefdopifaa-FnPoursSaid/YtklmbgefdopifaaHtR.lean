/- Rows of heats of the call's own: appended to, copied. -/
import Derived.Test.YtklmbgefdopifaaHtN
import Derived.Laws.AppendOwnNone
import Derived.Maps.AppendAt
namespace Go.Proofs.Ytklmbgefdopifaa
open Go.RowKit

theorem infoA_Heat : (Try.prog.info? 110).map (fun i => (i.zero, i.size, i.bytes)) = some (some (.agg #[.int .i64 0, .int .i64 0, .int .i64 0, .int .i64 0]), 4, 32) := by kernel_rfl
theorem one_Heat (x : HeatR) : ∀ u ∈ encHeat x, u.oneCell' = true := by intro u hu; simp [encHeat] at hu; rcases hu with rfl | rfl | rfl | rfl <;> rfl
set_option maxRecDepth 100000 in
theorem wpList_appHeat {w : World} {ops : Array Oper} {rest : List Oper} {o : Oper} {a : Act} {Q : Exit → Act → World → Prop} (hgd : o.guard = none) (s x : Operand) (ho : o.op = .call { callee := .builtin .append, args := #[s, x], argTypes := #[52, 52] }) (B : Nat) {v : Value} {xs : List HeatR} (hs : a.eval s = v)
    (hown : Own encHeat 4 110 w B v xs) {y0 : Int} {y1 : Int} {y2 : Int} {y3 : Int} {b : Nat} (hx : a.eval x = .slice (some ⟨b, 0, none⟩) 1 1) (hn : xs.length ≤ 1048576) (hB : B ≤ w.heap.size)
    (h : ∀ (A : Option Addr) (c : Nat) (w' : World), Own encHeat 4 110 w' B (.slice A (xs.length + 1) c) (xs ++ [⟨y0, y1, y2, y3⟩]) → Below B w w' → w.grownBy w' v.ownBlock → wpList Try.prog ops Q rest (a.put o.dst (.slice A (xs.length + 1) c)) w') (hbk : b = w.heap.size := by first | rfl | simp) : wpList Try.prog ops Q (o :: rest) a (w.alloc (.cells #[.int .i64 y0, .int .i64 y1, .int .i64 y2, .int .i64 y3] 110)) := by
  subst hbk
  obtain ⟨i0, hi, hz0, hz1, hz2⟩ := info_parts infoA_Heat
  have hb0 : Below w.heap.size w (w.alloc (.cells #[.int .i64 y0, .int .i64 y1, .int .i64 y2, .int .i64 y3] 110)) := (Below.refl _ _).alloc (Nat.le_refl _) _
  refine wpList_app Try.underlying52 hi hz0 hz1 hz2 rfl (by omega) (by omega) (fun _ => rfl) hgd s x ho B hs (hown.below hb0) ⟨y0, y1, y2, y3⟩ (one_Heat _) hx (fun j u hj => ?_) hn (by simp; omega) fun A c w' h1 h2 h3 => h A c w' h1 ((hb0.mono hB).trans h2) (grown_trans (grown_of_below hb0 _) h3)
  match j, hj with
  | 0, hj => injection hj with hj; subst hj; simp [Addr.add]
  | 1, hj => injection hj with hj; subst hj; simp [Addr.add]
  | 2, hj => injection hj with hj; subst hj; simp [Addr.add]
  | 3, hj => injection hj with hj; subst hj; simp [Addr.add]
abbrev OwnH (w : World) (B : Nat) (v : Value) (hs : List HeatR) : Prop := Own encHeat 4 110 w B v hs
set_option maxRecDepth 100000 in
/-- An append of one heat, and where the row then lies. -/
theorem wpList_appHeat_at {w : World} {ops : Array Oper} {rest : List Oper} {o : Oper} {a : Act} {Q : Exit → Act → World → Prop} (hgd : o.guard = none) (s x : Operand) (ho : o.op = .call { callee := .builtin .append, args := #[s, x], argTypes := #[52, 52] }) (B : Nat) {v : Value} {xs : List HeatR} (hs : a.eval s = v)
    (hown : OwnH w B v xs) {y0 y1 y2 y3 : Int} {q : Nat} (hx : a.eval x = .slice (some ⟨q, 0, none⟩) 1 1) (hn : xs.length ≤ 1048576) (hB : B ≤ w.heap.size)
    (h : ∀ (A : Option Addr) (c : Nat) (w' : World), OwnH w' B (.slice A (xs.length + 1) c) (xs ++ [⟨y0, y1, y2, y3⟩]) → Below B w w' → w.grownBy w' v.ownBlock → ((Value.slice A (xs.length + 1) c).ownBlock = v.ownBlock ∨ ∃ g, (Value.slice A (xs.length + 1) c).ownBlock = some g ∧ w.heap.size ≤ g) → wpList Try.prog ops Q rest (a.put o.dst (.slice A (xs.length + 1) c)) w') (hq : q = w.heap.size := by first | rfl | simp) : wpList Try.prog ops Q (o :: rest) a (w.alloc (.cells #[.int .i64 y0, .int .i64 y1, .int .i64 y2, .int .i64 y3] 110)) := by
  subst hq
  obtain ⟨i0, hi, hz0, hz1, hz2⟩ := info_parts infoA_Heat
  have hb0 : Below w.heap.size w (w.alloc (.cells #[.int .i64 y0, .int .i64 y1, .int .i64 y2, .int .i64 y3] 110)) := (Below.refl _ _).alloc (Nat.le_refl _) _
  refine wpList_append_own_at (w := w.alloc (.cells #[.int .i64 y0, .int .i64 y1, .int .i64 y2, .int .i64 y3] 110)) hgd s x 52 ho B 110 i0 _ 4 32 Try.underlying52 hi hz0 hz1 hz2 rfl (by omega) v xs.length (xs.flatMap encHeat) hs (hown.below hb0) ⟨w.heap.size, 0, none⟩ 1 1 [.int .i64 y0, .int .i64 y1, .int .i64 y2, .int .i64 y3] hx (by simp) ?_ (one_Heat ⟨y0, y1, y2, y3⟩) (by unfold maxLen; omega) (by omega) (by simp; omega) ?_
  · intro j u hj
    match j, hj with
    | 0, hj => injection hj with hj; subst hj; simp [Addr.add]
    | 1, hj => injection hj with hj; subst hj; simp [Addr.add]
    | 2, hj => injection hj with hj; subst hj; simp [Addr.add]
    | 3, hj => injection hj with hj; subst hj; simp [Addr.add]
  · intro v' w' hown' hg _ hat
    obtain ⟨A, c, rfl⟩ := own_slice hown'
    have hbl : Below B (w.alloc (.cells #[.int .i64 y0, .int .i64 y1, .int .i64 y2, .int .i64 y3] 110)) w' := Below.grown (Below.refl _ _) hg (by simp; omega) fun k hk => (Own.lt hown k hk).1
    refine h A c w' ?_ ((hb0.mono hB).trans hbl) (grown_trans (grown_of_below hb0 _) hg) ?_
    · unfold OwnH Own
      rw [List.length_append, List.flatMap_append]
      simpa [encHeat] using hown'
    · rcases hat with e | e
      · exact .inl e
      · exact .inr ⟨_, e, by simp⟩
set_option maxRecDepth 100000 in
/-- An append of all heats of a row of the call's own, nil let in. -/
theorem wpList_appHs {w : World} {ops : Array Oper} {rest : List Oper} {o : Oper} {a : Act} {Q : Exit → Act → World → Prop} (hgd : o.guard = none) (s x : Operand)
    (ho : o.op = .call { callee := .builtin .append, args := #[s, x], argTypes := #[52, 52] }) (B B2 : Nat) {v : Value} {xs ys : List HeatR} (hs : a.eval s = v) (hown : OwnH w B v xs) {A2 : Option Addr} {c2 : Nat}
    (hx : a.eval x = .slice A2 ys.length c2) (hy : OwnH w B2 (.slice A2 ys.length c2) ys) (hn : xs.length + ys.length ≤ 1048577) (hB : B ≤ w.heap.size)
    (h : ∀ (A : Option Addr) (c : Nat) (w' : World), OwnH w' B (.slice A (xs.length + ys.length) c) (xs ++ ys) → Below B w w' → w.grownBy w' v.ownBlock → wpList Try.prog ops Q rest (a.put o.dst (.slice A (xs.length + ys.length) c)) w') : wpList Try.prog ops Q (o :: rest) a w := by
  obtain ⟨i0, hi, hz0, hz1, hz2⟩ := info_parts infoA_Heat
  rcases hy.2 with ⟨e1, e2⟩ | ⟨g, cap, cur, e1, _⟩
  · injection e1 with e3 e4 e5
    subst e3; subst e5
    have hl : ys = [] := List.eq_nil_of_length_eq_zero e4
    subst hl
    obtain ⟨A, c, rfl⟩ := hown.slice
    refine wpList_append_own_none hgd s x 52 ho B 110 i0 4 Try.underlying52 hi _ xs.length (xs.flatMap encHeat) hs hown hx ?_
    have := h A c w (by rw [List.append_nil]; exact hown) (Below.refl _ _) (World.grownBy.refl _ _)
    simpa using this
  · injection e1 with e3 e4 e5
    subst e3
    exact wpList_appAll (sz := 4) (bytes := 32) Try.underlying52 hi hz0 hz1 hz2 rfl (by omega) (by omega) (fun _ => rfl) one_Heat hgd s x ho B hs hown hx (hy.at_ (fun _ => rfl)) hn hB h
/-- A copy of a row: where it lies. -/
def CopyH (ys : List HeatR) (w : World) (e : Ending) (w' : World) : Prop := ∃ (A : Option Addr) (c : Nat), e = .returned (.slice A ys.length c) ∧ OwnH w' w.heap.size (.slice A ys.length c) ys ∧ Below w.heap.size w w'
set_option maxRecDepth 100000 in
theorem cloneH (B : Nat) (A : Option Addr) (c : Nat) (ys : List HeatR) (w : World) (h : OwnH w B (.slice A ys.length c) ys) (hn : ys.length ≤ 100000) :
    Calls Try.prog 108 #[.slice A ys.length c] w (CopyH ys w) := by
  have q22 : ∀ (w : World) (a : Option Addr) (n c n' c' : Nat), (binOp .eql 52 (.slice a n c) (.slice none n' c')).run Try.prog w = .ok (.bool a.isNone) w := fun w a n c n' c' => Lib.run_eql_slice_nil w _ _ a n c n' c' Try.underlying52
  rcases h.2 with ⟨e1, e2⟩ | ⟨g, cap, cur, e1, _⟩
  · injection e1 with e3 e4 e5
    subst e3; subst e5
    have hl : ys = [] := List.eq_nil_of_length_eq_zero e4
    subst hl
    clear h hn e2 e4
    go_enter Try.func108, Try.ntmps108
    go_wp2_with fail
    go_ret
    exact ⟨none, 0, rfl, Own.nil, Below.refl _ _⟩
  · injection e1 with e3 e4 e5
    subst e3
    clear e4 e5
    have H := hide (h.below (w' := w.alloc (.cells #[] 110)) ((Below.refl _ _).alloc (Nat.le_refl _) _))
    have H0 := hide (own_made (enc := encHeat) (sz := 4) (T := 110) w rfl (Nat.le_refl _))
    clear h
    go_enter Try.func108, Try.ntmps108
    go_wp2_with (at_builtin; refine wpList_appHs (xs := []) rfl _ _ rfl w.heap.size B rfl H0.out rfl H.out (by simp; omega) (by simp) ?_; intro A1 c1 w1 ho1 hb1 _hg1; have HO := hide ho1; have HB := hide (Below.trans ((Below.refl w.heap.size w).alloc (Nat.le_refl _) (.cells #[] 110)) hb1); clear ho1 hb1)
    go_ret
    exact ⟨A1, c1, by simp, by simpa using HO.out, HB.out⟩
/-- A row of one-cell elements, one of them written. -/
theorem own_set1 {α : Type} {enc : α → List Value} {f : α → Value} {T : TypeId} {w : World} {B g n c k : Nat} {xs : List α} (he : ∀ x, enc x = [f x]) (h : Own enc 1 T w B (.slice (some ⟨g, 0, none⟩) n c) xs) (y : α) : Own enc 1 T (w.setCell ⟨g, k, none⟩ (f y)) B (.slice (some ⟨g, 0, none⟩) n c) (xs.set k y) := by
  have hfl : ∀ l : List α, l.flatMap enc = l.map f := fun l => by
    induction l with
    | nil => rfl
    | cons a l ih => rw [List.flatMap_cons, he, ih]; rfl
  obtain ⟨h1, h2⟩ := h
  rcases h2 with ⟨e, h0⟩ | ⟨g2, cap, cur, e, hB, hc, hle, hmx, hsz, htk⟩
  · cases e
  · injection e with e1 e2 e3
    injection e1 with e1
    injection e1 with e1
    subst e1
    subst e3
    refine ⟨by rw [hfl]; simp, .inr ⟨g, c, cur.setIfInBounds k (f y), by rw [List.length_set, e2], hB, by simp [World.setCell, Array.getElem?_modify, hc], by rw [List.length_set]; exact hle, hmx, by simpa using hsz, ?_⟩⟩
    rw [hfl] at htk
    rw [hfl, List.map_set, ← htk, List.length_set, Array.toList_setIfInBounds, List.take_set]
/-- What a row's element reads. -/
theorem own_get1 {α : Type} {enc : α → List Value} {f : α → Value} {T : TypeId} {w : World} {B n c k : Nat} {A : Option Addr} {xs : List α} (he : ∀ x, enc x = [f x]) (h : Own enc 1 T w B (.slice A n c) xs) (hk : k < xs.length) : ∃ g, A = some ⟨g, 0, none⟩ ∧ B ≤ g ∧ g < w.heap.size ∧ w.cell? ⟨g, k, none⟩ = some (f xs[k]) ∧ w.frozen? ⟨g, k, none⟩ = false := by
  have hfl : ∀ l : List α, l.flatMap enc = l.map f := fun l => by
    induction l with
    | nil => rfl
    | cons a l ih => rw [List.flatMap_cons, he, ih]; rfl
  obtain ⟨h1, h2⟩ := h
  rcases h2 with ⟨e, h0⟩ | ⟨g, cap, cur, e, hB, hc, hle, hmx, hsz, htk⟩
  · omega
  · injection e with e1 e2 e3
    refine ⟨g, e1, hB, (Array.getElem?_eq_some_iff.1 hc).1, ?_, by simp [World.frozen?, hc]⟩
    rw [hfl] at htk
    have hkl : k < cur.size := by omega
    have q := congrArg (fun l => l[k]?) htk
    simp only [Nat.mul_one] at q
    rw [List.getElem?_take, if_pos hk, List.getElem?_map, List.getElem?_eq_getElem hk] at q
    simp only [World.cell?, hc]
    simpa using q
end Go.Proofs.Ytklmbgefdopifaa
