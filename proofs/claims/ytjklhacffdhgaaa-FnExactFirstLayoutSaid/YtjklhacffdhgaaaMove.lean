/- MovePlace on both sides; its law's walk. -/
import Derived.Test.YtjklhacffdhgaaaOut
namespace Go.Proofs.Ytjklhacffdhgaaa
open Go.RowKit

theorem infoA_Place : (Try.prog.info? 95).map (fun i => (i.zero, i.size, i.bytes)) = some (some (.agg #[.string ByteArray.empty, .int .i64 0, .int .i64 0, .int .i64 0, .int .i64 0]), 5, 48) := by kernel_rfl
theorem one_Place (x : PlaceR) : ∀ u ∈ encPlace x, u.oneCell' = true := by intro u hu; simp [encPlace] at hu; rcases hu with rfl | rfl | rfl | rfl | rfl <;> rfl
set_option maxRecDepth 100000 in
theorem wpList_appPlace {w : World} {ops : Array Oper} {rest : List Oper} {o : Oper} {a : Act} {Q : Exit → Act → World → Prop} (hgd : o.guard = none) (s x : Operand) (ho : o.op = .call { callee := .builtin .append, args := #[s, x], argTypes := #[83, 83] }) (B : Nat) {v : Value} {xs : List PlaceR} (hs : a.eval s = v)
    (hown : Own encPlace 5 95 w B v xs) {y0 : ByteArray} {y1 : Int} {y2 : Int} {y3 : Int} {y4 : Int} {b : Nat} (hx : a.eval x = .slice (some ⟨b, 0, none⟩) 1 1) (hn : xs.length ≤ 1048576) (hB : B ≤ w.heap.size)
    (h : ∀ (A : Option Addr) (c : Nat) (w' : World), Own encPlace 5 95 w' B (.slice A (xs.length + 1) c) (xs ++ [⟨y0, y1, y2, y3, y4⟩]) → Below B w w' → w.grownBy w' v.ownBlock → wpList Try.prog ops Q rest (a.put o.dst (.slice A (xs.length + 1) c)) w') (hbk : b = w.heap.size := by first | rfl | simp) : wpList Try.prog ops Q (o :: rest) a (w.alloc (.cells #[.string y0, .int .i64 y1, .int .i64 y2, .int .i64 y3, .int .i64 y4] 95)) := by
  subst hbk
  obtain ⟨i0, hi, hz0, hz1, hz2⟩ := info_parts infoA_Place
  have hb0 : Below w.heap.size w (w.alloc (.cells #[.string y0, .int .i64 y1, .int .i64 y2, .int .i64 y3, .int .i64 y4] 95)) := (Below.refl _ _).alloc (Nat.le_refl _) _
  refine wpList_app Try.underlying83 hi hz0 hz1 hz2 rfl (by omega) (by omega) (fun _ => rfl) hgd s x ho B hs (hown.below hb0) ⟨y0, y1, y2, y3, y4⟩ (one_Place _) hx (fun j u hj => ?_) hn (by simp; omega) fun A c w' h1 h2 h3 => h A c w' h1 ((hb0.mono hB).trans h2) (grown_trans (grown_of_below hb0 _) h3)
  match j, hj with
  | 0, hj => injection hj with hj; subst hj; simp [Addr.add]
  | 1, hj => injection hj with hj; subst hj; simp [Addr.add]
  | 2, hj => injection hj with hj; subst hj; simp [Addr.add]
  | 3, hj => injection hj with hj; subst hj; simp [Addr.add]
  | 4, hj => injection hj with hj; subst hj; simp [Addr.add]
/-- A place moved. -/
def mvd (dx dy dz : Int) (p : PlaceR) : PlaceR := ⟨p.nm, p.x + dx, p.y + dy, p.z + dz, p.r⟩
def moved (dx dy dz : Int) (k : Nat) (xs : List PlaceR) : List PlaceR := xs.mapIdx fun i p => if i = k then mvd dx dy dz p else p
theorem moved_len (dx dy dz : Int) (k : Nat) (xs : List PlaceR) : (moved dx dy dz k xs).length = xs.length := by simp [moved]
theorem moved_get (dx dy dz : Int) (k : Nat) (xs : List PlaceR) (i : Nat) (h : i < xs.length) : (moved dx dy dz k xs)[i]'(by rw [moved_len]; exact h) = if i = k then mvd dx dy dz xs[i] else xs[i] := by simp [moved]
theorem moved_nm (dx dy dz : Int) (k : Nat) (xs : List PlaceR) (i : Nat) (h : i < xs.length) : ((moved dx dy dz k xs)[i]'(by rw [moved_len]; exact h)).nm = xs[i].nm := by
  rw [moved_get dx dy dz k xs i h]; split <;> rfl
theorem moved_take {dx dy dz : Int} {k : Nat} {xs : List PlaceR} {i : Nat} (h : i < xs.length) : (moved dx dy dz k xs).take (i + 1) = (moved dx dy dz k xs).take i ++ [if i = k then mvd dx dy dz xs[i] else xs[i]] := by
  rw [List.take_succ_eq_append_getElem (by rw [moved_len]; exact h), moved_get dx dy dz k xs i h]
theorem moved_rows {dx dy dz : Int} {k : Nat} {xs : List PlaceR} (hk : k < xs.length) (h : rowsB vPlaceR PlaceR.nm 24 xs = true) : rowsB vPlaceR PlaceR.nm 24 (moved dx dy dz k xs) = vPlaceR (mvd dx dy dz xs[k]) := by
  obtain ⟨h1, h2, h3⟩ := rowsB_all h
  cases hv : vPlaceR (mvd dx dy dz xs[k])
  · exact rowsB_bad k ⟨by rw [moved_len]; exact hk, .inl (by rw [moved_get dx dy dz k xs k hk, if_pos rfl]; exact hv)⟩
  · rw [rowsB_fin fun j hj => ?_, moved_len, decide_eq_true (by omega)]
    rw [moved_len] at hj
    rintro ⟨a, b | ⟨c, d⟩⟩
    · rw [moved_get dx dy dz k xs j hj] at b
      split at b
      · rename_i e; subst e; rw [hv] at b; cases b
      · rw [h1 _ (List.getElem_mem hj)] at b; cases b
    · rw [moved_nm dx dy dz k xs j hj, moved_nm dx dy dz k xs (j - 1) (by omega)] at d
      exact h3 j ⟨hj, .inr ⟨c, d⟩⟩
@[irreducible] noncomputable def mvOf (xs : List PlaceR) (k dx dy dz : Int) : List PlaceR × Int :=
  if rowsB vPlaceR PlaceR.nm 24 xs then (if inB k 0 ((xs.length : Int) - 1) && inB dx (-20000) 20000 && inB dy (-20000) 20000 && inB dz (-20000) 20000 then
    (if rowsB vPlaceR PlaceR.nm 24 (moved dx dy dz k.toNat xs) then (moved dx dy dz k.toNat xs, 0) else ([], 6)) else ([], 2)) else ([], 1)
theorem mvOf_1 {xs : List PlaceR} {k dx dy dz : Int} (h : rowsB vPlaceR PlaceR.nm 24 xs = false) : mvOf xs k dx dy dz = ([], 1) := by unfold mvOf; simp [h]
theorem mvOf_2 {xs : List PlaceR} {k dx dy dz : Int} (h : rowsB vPlaceR PlaceR.nm 24 xs = true) (h2 : (inB k 0 ((xs.length : Int) - 1) && inB dx (-20000) 20000 && inB dy (-20000) 20000 && inB dz (-20000) 20000) = false) : mvOf xs k dx dy dz = ([], 2) := by unfold mvOf; rw [if_pos h, h2]; rfl
theorem mvOf_3 {xs : List PlaceR} {k dx dy dz : Int} (h : rowsB vPlaceR PlaceR.nm 24 xs = true) (h2 : (inB k 0 ((xs.length : Int) - 1) && inB dx (-20000) 20000 && inB dy (-20000) 20000 && inB dz (-20000) 20000) = true) : mvOf xs k dx dy dz = if rowsB vPlaceR PlaceR.nm 24 (moved dx dy dz k.toNat xs) then (moved dx dy dz k.toNat xs, 0) else ([], 6) := by unfold mvOf; rw [if_pos h, if_pos h2]

theorem set_moved {dx dy dz : Int} {k : Nat} {xs : List PlaceR} (h : k < xs.length) {x0 : ByteArray} {x1 x2 x3 x4 : Int} (hx : xs[k] = ⟨x0, x1, x2, x3, x4⟩) :
    (((xs.flatMap encPlace).set (k * 5 + 1) (.int .i64 (x1 + dx))).set (k * 5 + 2) (.int .i64 (x2 + dy))).set (k * 5 + 3) (.int .i64 (x3 + dz)) = (moved dx dy dz k xs).flatMap encPlace := by
  have e1 : xs = xs.take k ++ ⟨x0, x1, x2, x3, x4⟩ :: xs.drop (k + 1) := by rw [← hx, ← List.drop_eq_getElem_cons h, List.take_append_drop]
  have e2 : moved dx dy dz k xs = xs.take k ++ mvd dx dy dz ⟨x0, x1, x2, x3, x4⟩ :: xs.drop (k + 1) := by
    refine List.ext_getElem (by rw [moved_len]; simp; omega) fun i h1 h2 => ?_
    have hi : i < xs.length := by rwa [moved_len] at h1
    rw [moved_get dx dy dz k xs i hi]
    by_cases hik : i = k
    · subst hik
      rw [if_pos rfl, List.getElem_append_right (by simp; omega), hx]
      simp [Nat.min_eq_left (Nat.le_of_lt h)]
    · rw [if_neg hik]
      by_cases hlt : i < k
      · rw [List.getElem_append_left (by simp; omega)]; simp
      · rw [List.getElem_append_right (by simp; omega)]
        obtain ⟨d, rfl⟩ : ∃ d, i = k + 1 + d := ⟨i - (k + 1), by omega⟩
        simp [Nat.min_eq_left (Nat.le_of_lt h), show k + 1 + d - k = d + 1 by omega]
  have hl := flat_length (enc := encPlace) (sz := 5) (fun _ => rfl) (xs.take k)
  rw [List.length_take, Nat.min_eq_left (Nat.le_of_lt h)] at hl
  rw [e2]
  conv => lhs; rw [e1]
  rw [List.flatMap_append, List.flatMap_append, List.flatMap_cons, List.flatMap_cons]
  generalize (xs.take k).flatMap encPlace = P at *
  generalize (xs.drop (k + 1)).flatMap encPlace = C
  rw [← hl]
  simp [encPlace, mvd]
set_option maxRecDepth 100000 in
theorem wpList_allPlace {w : World} {ops : Array Oper} {rest : List Oper} {o : Oper} {a : Act} {Q : Exit → Act → World → Prop} (hgd : o.guard = none) (s x : Operand) (ho : o.op = .call { callee := .builtin .append, args := #[s, x], argTypes := #[83, 83] }) (B : Nat) {v : Value} (hs : a.eval s = v)
    (hown : Own encPlace 5 95 w B v ([] : List PlaceR)) {b off c : Nat} {ys : List PlaceR} (hx : a.eval x = .slice (some ⟨b, off, none⟩) ys.length c) (hy : SlAt encPlace 5 w (some ⟨b, off, none⟩) ys) (hn : ys.length ≤ 1048576) (hB : B ≤ w.heap.size)
    (h : ∀ (A : Option Addr) (c : Nat) (w' : World), Own encPlace 5 95 w' B (.slice A ys.length c) ys → Below B w w' → wpList Try.prog ops Q rest (a.put o.dst (.slice A ys.length c)) w') : wpList Try.prog ops Q (o :: rest) a w := by
  obtain ⟨i0, hi, hz0, hz1, hz2⟩ := info_parts infoA_Place
  refine wpList_appAll Try.underlying83 hi hz0 hz1 hz2 rfl (by omega) (by omega) (fun _ => rfl) one_Place hgd s x ho B hs hown hx hy (by simp; omega) hB fun A c w' h1 h2 _ => ?_
  simp only [List.length_nil, Nat.zero_add, List.nil_append] at h1 ⊢
  exact h A c w' h1 h2
theorem placeCells {w : World} {B g c k : Nat} {xs : List PlaceR} (h : Own encPlace 5 95 w B (.slice (some ⟨g, 0, none⟩) xs.length c) xs) (hk : k < xs.length) {x0 : ByteArray} {x1 x2 x3 x4 : Int} (hx : xs[k] = ⟨x0, x1, x2, x3, x4⟩) :
    w.cell? ⟨g, k * 5, none⟩ = some (.string x0) ∧ w.cell? ⟨g, k * 5 + 1, none⟩ = some (.int .i64 x1) ∧ w.cell? ⟨g, k * 5 + 2, none⟩ = some (.int .i64 x2) ∧ w.cell? ⟨g, k * 5 + 3, none⟩ = some (.int .i64 x3) ∧ w.cell? ⟨g, k * 5 + 4, none⟩ = some (.int .i64 x4) ∧
    w.frozen? ⟨g, k * 5 + 1, none⟩ = false ∧ w.frozen? ⟨g, k * 5 + 2, none⟩ = false ∧ w.frozen? ⟨g, k * 5 + 3, none⟩ = false := by
  obtain ⟨b, off, e, _, hc⟩ := Own.at_ (enc := encPlace) (sz := 5) (fun _ => rfl) h k hk
  injection e with e
  injection e with e1 e2
  subst e1; subst e2
  rw [hx] at hc
  have c0 := hc 0 _ rfl
  have c1 := hc 1 _ rfl
  have c2 := hc 2 _ rfl
  have c3 := hc 3 _ rfl
  have c4 := hc 4 _ rfl
  simp only [Nat.zero_add, Nat.add_zero] at c0 c1 c2 c3 c4
  exact ⟨c0, c1, c2, c3, c4, World.ownsRow.frozenAt h _, World.ownsRow.frozenAt h _, World.ownsRow.frozenAt h _⟩
end Go.Proofs.Ytjklhacffdhgaaa
