/- MovePlace on both sides; its law's walk. -/
import Derived.Test.YtdimapcecdffnaaOut
namespace Go.Proofs.Ytdimapcecdffnaa
open Go.RowKit

theorem infoA_Place : (Try.prog.info? 117).map (fun i => (i.zero, i.size, i.bytes)) = some (some (.agg #[.string ByteArray.empty, .int .i64 0, .int .i64 0, .int .i64 0, .int .i64 0]), 5, 48) := by kernel_rfl
theorem one_Place (x : PlaceR) : ∀ u ∈ encPlace x, u.oneCell' = true := by intro u hu; simp [encPlace] at hu; rcases hu with rfl | rfl | rfl | rfl | rfl <;> rfl
set_option maxRecDepth 100000 in
theorem wpList_appPlace {w : World} {ops : Array Oper} {rest : List Oper} {o : Oper} {a : Act} {Q : Exit → Act → World → Prop} (hgd : o.guard = none) (s x : Operand) (ho : o.op = .call { callee := .builtin .append, args := #[s, x], argTypes := #[56, 56] }) (B : Nat) {v : Value} {xs : List PlaceR} (hs : a.eval s = v)
    (hown : Own encPlace 5 117 w B v xs) {y0 : ByteArray} {y1 : Int} {y2 : Int} {y3 : Int} {y4 : Int} {b : Nat} (hx : a.eval x = .slice (some ⟨b, 0, none⟩) 1 1) (hn : xs.length ≤ 1048576) (hB : B ≤ w.heap.size)
    (h : ∀ (A : Option Addr) (c : Nat) (w' : World), Own encPlace 5 117 w' B (.slice A (xs.length + 1) c) (xs ++ [⟨y0, y1, y2, y3, y4⟩]) → Below B w w' → w.grownBy w' v.ownBlock → wpList Try.prog ops Q rest (a.put o.dst (.slice A (xs.length + 1) c)) w') (hbk : b = w.heap.size := by first | rfl | simp) : wpList Try.prog ops Q (o :: rest) a (w.alloc (.cells #[.string y0, .int .i64 y1, .int .i64 y2, .int .i64 y3, .int .i64 y4] 117)) := by
  subst hbk
  obtain ⟨i0, hi, hz0, hz1, hz2⟩ := info_parts infoA_Place
  have hb0 : Below w.heap.size w (w.alloc (.cells #[.string y0, .int .i64 y1, .int .i64 y2, .int .i64 y3, .int .i64 y4] 117)) := (Below.refl _ _).alloc (Nat.le_refl _) _
  refine wpList_app Try.underlying56 hi hz0 hz1 hz2 rfl (by omega) (by omega) (fun _ => rfl) hgd s x ho B hs (hown.below hb0) ⟨y0, y1, y2, y3, y4⟩ (one_Place _) hx (fun j u hj => ?_) hn (by simp; omega) fun A c w' h1 h2 h3 => h A c w' h1 ((hb0.mono hB).trans h2) (grown_trans (grown_of_below hb0 _) h3)
  match j, hj with
  | 0, hj => injection hj with hj; subst hj; simp [Addr.add]
  | 1, hj => injection hj with hj; subst hj; simp [Addr.add]
  | 2, hj => injection hj with hj; subst hj; simp [Addr.add]
  | 3, hj => injection hj with hj; subst hj; simp [Addr.add]
  | 4, hj => injection hj with hj; subst hj; simp [Addr.add]
/-- A place moved. -/
def mvd (dx dy dz : Int) (p : PlaceR) : PlaceR := ⟨p.nm, p.x + dx, p.y + dy, p.z + dz, p.r⟩
def moved (dx dy dz : Int) (k : Nat) (xs : List PlaceR) : List PlaceR := xs.mapIdx fun i p => if i = k then mvd dx dy dz p else p
theorem moved_len (dx dy dz : Int) (k : Nat) (xs : List PlaceR) : (moved dx dy dz k xs).length = xs.length := by simp [moved]
theorem moved_get (dx dy dz : Int) (k : Nat) (xs : List PlaceR) (i : Nat) (h : i < xs.length) : (moved dx dy dz k xs)[i]'(by rw [moved_len]; exact h) = if i = k then mvd dx dy dz xs[i] else xs[i] := by simp [moved]
theorem moved_nm (dx dy dz : Int) (k : Nat) (xs : List PlaceR) (i : Nat) (h : i < xs.length) : ((moved dx dy dz k xs)[i]'(by rw [moved_len]; exact h)).nm = xs[i].nm := by
  rw [moved_get dx dy dz k xs i h]; split <;> rfl
theorem moved_take {dx dy dz : Int} {k : Nat} {xs : List PlaceR} {i : Nat} (h : i < xs.length) : (moved dx dy dz k xs).take (i + 1) = (moved dx dy dz k xs).take i ++ [if i = k then mvd dx dy dz xs[i] else xs[i]] := by
  rw [List.take_succ_eq_append_getElem (by rw [moved_len]; exact h), moved_get dx dy dz k xs i h]
theorem moved_rows {dx dy dz : Int} {k : Nat} {xs : List PlaceR} (hk : k < xs.length) (h : rowsB vPlaceR PlaceR.nm 24 xs = true) : rowsB vPlaceR PlaceR.nm 24 (moved dx dy dz k xs) = vPlaceR (mvd dx dy dz xs[k]) := by
  obtain ⟨h1, h2, h3⟩ := rowsB_all h
  cases hv : vPlaceR (mvd dx dy dz xs[k])
  · exact rowsB_bad k ⟨by rw [moved_len]; exact hk, .inl (by rw [moved_get dx dy dz k xs k hk, if_pos rfl]; exact hv)⟩
  · rw [rowsB_fin fun j hj => ?_, moved_len, decide_eq_true (by omega)]
    rw [moved_len] at hj
    rintro ⟨a, b | ⟨c, d⟩⟩
    · rw [moved_get dx dy dz k xs j hj] at b
      split at b
      · rename_i e; subst e; rw [hv] at b; cases b
      · rw [h1 _ (List.getElem_mem hj)] at b; cases b
    · rw [moved_nm dx dy dz k xs j hj, moved_nm dx dy dz k xs (j - 1) (by omega)] at d
      exact h3 j ⟨hj, .inr ⟨c, d⟩⟩
@[irreducible] noncomputable def mvOf (xs : List PlaceR) (k dx dy dz : Int) : List PlaceR × Int :=
  if rowsB vPlaceR PlaceR.nm 24 xs then (if inB k 0 ((xs.length : Int) - 1) && inB dx (-20000) 20000 && inB dy (-20000) 20000 && inB dz (-20000) 20000 then
    (if rowsB vPlaceR PlaceR.nm 24 (moved dx dy dz k.toNat xs) then (moved dx dy dz k.toNat xs, 0) else ([], 6)) else ([], 2)) else ([], 1)
theorem mvOf_1 {xs : List PlaceR} {k dx dy dz : Int} (h : rowsB vPlaceR PlaceR.nm 24 xs = false) : mvOf xs k dx dy dz = ([], 1) := by unfold mvOf; simp [h]
theorem mvOf_2 {xs : List PlaceR} {k dx dy dz : Int} (h : rowsB vPlaceR PlaceR.nm 24 xs = true) (h2 : (inB k 0 ((xs.length : Int) - 1) && inB dx (-20000) 20000 && inB dy (-20000) 20000 && inB dz (-20000) 20000) = false) : mvOf xs k dx dy dz = ([], 2) := by unfold mvOf; rw [if_pos h, h2]; rfl
theorem mvOf_3 {xs : List PlaceR} {k dx dy dz : Int} (h : rowsB vPlaceR PlaceR.nm 24 xs = true) (h2 : (inB k 0 ((xs.length : Int) - 1) && inB dx (-20000) 20000 && inB dy (-20000) 20000 && inB dz (-20000) 20000) = true) : mvOf xs k dx dy dz = if rowsB vPlaceR PlaceR.nm 24 (moved dx dy dz k.toNat xs) then (moved dx dy dz k.toNat xs, 0) else ([], 6) := by unfold mvOf; rw [if_pos h, if_pos h2]

theorem implsizePlace (A : Option Addr) (n c : Nat) (w : World) : Calls Try.prog 90 #[.slice A n c] w fun e w' => e = .returned (.int .i64 n) ∧ w = w' := by
  go_enter Try.func90, Try.ntmps90
  go_wp2
  go_ret
  exact ⟨rfl, rfl⟩
set_option maxRecDepth 100000 in
theorem implMovePlace_bad (A : Option Addr) (c : Nat) (xs : List PlaceR) (k dx dy dz : Int) (w : World) (h : SlAt encPlace 5 w A xs) (hn : xs.length ≤ 1048576) (hx : ∀ x ∈ xs, x.nm.size ≤ maxLen)
    (hb : rowsB vPlaceR PlaceR.nm 24 xs = false ∨ (rowsB vPlaceR PlaceR.nm 24 xs = true ∧ (inB k 0 ((xs.length : Int) - 1) && inB dx (-20000) 20000 && inB dy (-20000) 20000 && inB dz (-20000) 20000) = false)) :
    Calls Try.prog 38 #[.slice A xs.length c, .int .i64 k, .int .i64 dx, .int .i64 dy, .int .i64 dz] w (SlRes encPlace 5 117 (fun ys code => mvOf xs k dx dy dz = (ys, code)) w) := by
  have HX := hide h
  have HS := hide hx
  clear h hx
  rcases hb with hr | ⟨hr, hb⟩
  · have e : Hid (mvOf xs k dx dy dz = ([], 1)) := mvOf_1 hr
    go_enter Try.func38, Try.ntmps38
    go_wp2_with fail
    refine (implValidPlaces A c xs _ HX.out hn HS.out).mono ?_
    rintro e w1 ⟨rfl, hb1⟩
    obtain ⟨fcb1, ffb1, fzb1⟩ := bfacts hb1 (by first | exact Nat.le_refl _ | omega | (simp; omega) | simp); have fsb1 := hb1.size; try simp at fcb1 ffb1 fzb1 fsb1 hb1
    go_wp2_with fail
    go_ret2
    exact slRes_nil e.out (by repeat (first | with_reducible exact Below.refl _ _ | with_reducible assumption | (with_reducible refine Below.drew ?_) | (with_reducible refine below_drewN ?_ _) | ((with_reducible refine Below.alloc ?_ ?_ _); rotate_left; (focus (first | omega | (simp; omega) | simp))) | ((with_reducible refine Below.setCell ?_ ?_ _); rotate_left; (focus (first | omega | (simp; omega) | simp))) | (refine Below.trans ?_ (Below.mono (by assumption) (by first | omega | (simp; omega) | simp)))))
  · have e : Hid (mvOf xs k dx dy dz = ([], 2)) := mvOf_2 hr hb
    have HB := hide hb
    clear hb
    cases h1 : inB k 0 ((xs.length : Int) - 1) <;> cases h2 : inB dx (-20000) 20000 <;> cases h3 : inB dy (-20000) 20000 <;> cases h4 : inB dz (-20000) 20000
    all_goals first | (exfalso; have := HB.out; rw [h1, h2, h3, h4] at this; cases this; done) | skip
    all_goals
      go_enter Try.func38, Try.ntmps38
      go_wp2_with fail
      refine (implValidPlaces A c xs _ HX.out hn HS.out).mono ?_
      rintro e w1 ⟨rfl, hb1⟩
      obtain ⟨fcb1, ffb1, fzb1⟩ := bfacts hb1 (by first | exact Nat.le_refl _ | omega | (simp; omega) | simp); have fsb1 := hb1.size; try simp at fcb1 ffb1 fzb1 fsb1 hb1
      go_wp2_with (first
        | (go_at_call 90; refine (implsizePlace _ _ _ _).mono ?_; rintro e2 w2 ⟨rfl, rfl⟩)
        | (go_at_call 64; refine (implwithin_any _ _ _ _).mono ?_; rintro e2 w2 ⟨rfl, rfl⟩)
        | (go_at_call 91; refine (implisMove_any _ _).mono ?_; rintro e2 w2 ⟨rfl, rfl⟩))
      go_ret2
      exact slRes_nil e.out (by repeat (first | with_reducible exact Below.refl _ _ | with_reducible assumption | (with_reducible refine Below.drew ?_) | (with_reducible refine below_drewN ?_ _) | ((with_reducible refine Below.alloc ?_ ?_ _); rotate_left; (focus (first | omega | (simp; omega) | simp))) | ((with_reducible refine Below.setCell ?_ ?_ _); rotate_left; (focus (first | omega | (simp; omega) | simp))) | (refine Below.trans ?_ (Below.mono (by assumption) (by first | omega | (simp; omega) | simp)))))
set_option maxRecDepth 100000 in
set_option maxHeartbeats 1000000 in
theorem implMovePlace_ok (A : Option Addr) (c : Nat) (xs : List PlaceR) (k : Nat) (dx dy dz : Int) (w : World) (h : SlAt encPlace 5 w A xs) (hn : xs.length ≤ 1048576) (hx : ∀ x ∈ xs, x.nm.size ≤ maxLen)
    (hr : rowsB vPlaceR PlaceR.nm 24 xs = true) (h1 : inB (k : Int) 0 ((xs.length : Int) - 1) = true) (h2 : inB dx (-20000) 20000 = true) (h3 : inB dy (-20000) 20000 = true) (h4 : inB dz (-20000) 20000 = true) :
    Calls Try.prog 38 #[.slice A xs.length c, .int .i64 k, .int .i64 dx, .int .i64 dy, .int .i64 dz] w (SlRes encPlace 5 117 (fun ys code => mvOf xs k dx dy dz = (ys, code)) w) := by
  have e : Hid (mvOf xs k dx dy dz = if rowsB vPlaceR PlaceR.nm 24 (moved dx dy dz k xs) then (moved dx dy dz k xs, 0) else ([], 6)) := hide (mvOf_3 (k := k) hr (by rw [h1, h2, h3, h4]; rfl))
  obtain ⟨rv, rl, -⟩ := rowsB_all hr
  have RV := hide rv
  have HX := hide h
  have HS := hide hx
  obtain ⟨a1, a2⟩ := inB_true h2
  obtain ⟨a3, a4⟩ := inB_true h3
  obtain ⟨a5, a6⟩ := inB_true h4
  clear h hx rv
  go_enter Try.func38, Try.ntmps38
  go_wp2_with fail
  refine (implValidPlaces A c xs _ HX.out hn HS.out).mono ?_
  rintro e w1 ⟨rfl, hb1⟩
  obtain ⟨fcb1, ffb1, fzb1⟩ := bfacts hb1 (by first | exact Nat.le_refl _ | omega | (simp; omega) | simp); have fsb1 := hb1.size; try simp at fcb1 ffb1 fzb1 fsb1 hb1
  go_wp2_with (first
    | (go_at_call 90; refine (implsizePlace _ _ _ _).mono ?_; rintro e2 w2 ⟨rfl, rfl⟩)
    | (go_at_call 64; refine (implwithin_any _ _ _ _).mono ?_; rintro e2 w2 ⟨rfl, rfl⟩)
    | (go_at_call 91; refine (implisMove_any _ _).mono ?_; rintro e2 w2 ⟨rfl, rfl⟩))
  have HX1 := hide (HX.out.below hb1)
  have HB1 := hide hb1
  have K1 := hide (inB_true h1)
  clear hb1 fcb1 ffb1 fzb1 fsb1 hr h1 h2 h3 h4
  go_loopw [41, 12] (fun v t wr => ∃ (i : Nat) (A' : Option Addr) (c' : Nat) (ys : List PlaceR), v = .int .i64 i ∧ t = .slice A' ys.length c' ∧ i ≤ xs.length ∧ Hid (ys = (moved dx dy dz k xs).take i) ∧ ys.length ≤ i ∧
      Hid (Own encPlace 5 117 wr w.heap.size (.slice A' ys.length c') ys) ∧ Below w.heap.size w wr) (fun v _ _ => xs.length - (intOf v).toNat)
  case atStart => exact ⟨0, none, 0, [], rfl, rfl, by omega, rfl, by simp, hide Own.nil, HB1.out⟩
  case round =>
    obtain ⟨i, A', c', ys, rfl, rfl, hi, hy, hyl, HO, hb⟩ := hrel
    have hz := hb.size
    have HB := hide hb
    by_cases hlt : i < xs.length
    · obtain ⟨b, off, rfl, hbl, hc⟩ := HX.out.below hb i hlt
      have hvx := hide (RV.out xs[i] (List.getElem_mem hlt))
      have ha := hide (moved_take (dx := dx) (dy := dy) (dz := dz) (k := k) hlt)
      have hc0 := hc 0 _ rfl
      have hc1 := hc 1 _ rfl
      have hc2 := hc 2 _ rfl
      have hc3 := hc 3 _ rfl
      have hc4 := hc 4 _ rfl
      simp only [Nat.add_zero] at hc0
      clear hc hb
      generalize hxi : xs[i] = x at *
      clear hxi
      obtain ⟨x0, x1, x2, x3, x4⟩ := x
      simp only at hc0 hc1 hc2 hc3 hc4 ha
      obtain ⟨_, ⟨v1, v2⟩, ⟨v3, v4⟩, ⟨v5, v6⟩, -⟩ := vPlace_true x0 x1 x2 x3 x4 hvx.out
      by_cases hik : i = k
      · have t1 : ((i : Int) == (k : Int)) = true := by simp [hik]
        have ha2 : Hid (ys ++ [⟨x0, x1 + dx, x2 + dy, x3 + dz, x4⟩] = (moved dx dy dz k xs).take (i + 1)) := hide (by rw [ha.out, if_pos hik, ← hy.out]; rfl)
        clear hik ha
        go_wp2_with (at_builtin; refine wpList_appPlace rfl _ _ rfl w.heap.size rfl (HO.out.below ((Below.refl _ _).alloc (Nat.le_refl _) _)) rfl (by omega) ?_ ?_; (focus (simp; omega)); intro A1 c1 w6 ho2 hb6 _hg6)
        go_roundw
        case rel => exact ⟨i + 1, A1, c1, ys ++ [⟨x0, x1 + dx, x2 + dy, x3 + dz, x4⟩], by go_num, by simp, by omega, ha2, by simp; omega, by simpa using hide ho2, (HB.out.alloc (by omega) _).trans hb6⟩
        case measure => simp [intOf]; omega
      · have t1 : ((i : Int) == (k : Int)) = false := by simp; omega
        have ha2 : Hid (ys ++ [⟨x0, x1, x2, x3, x4⟩] = (moved dx dy dz k xs).take (i + 1)) := hide (by rw [ha.out, if_neg hik, ← hy.out])
        clear hik ha
        go_wp2_with (at_builtin; refine wpList_appPlace rfl _ _ rfl w.heap.size rfl (HO.out.below ((Below.refl _ _).alloc (Nat.le_refl _) _)) rfl (by omega) ?_ ?_; (focus (simp; omega)); intro A1 c1 w6 ho2 hb6 _hg6)
        go_roundw
        case rel => exact ⟨i + 1, A1, c1, ys ++ [⟨x0, x1, x2, x3, x4⟩], by go_num, by simp, by omega, ha2, by simp; omega, by simpa using hide ho2, (HB.out.alloc (by omega) _).trans hb6⟩
        case measure => simp [intOf]; omega
    · obtain rfl : i = xs.length := by omega
      have hyy : ys = moved dx dy dz k xs := by rw [hy.out, ← moved_len dx dy dz k xs, List.take_length]
      have hys : ∀ x ∈ ys, x.nm.size ≤ maxLen := fun x hx => by
        rw [hyy] at hx
        obtain ⟨j, hj, rfl⟩ := List.getElem_of_mem hx
        have hj' : j < xs.length := by rwa [moved_len] at hj
        rw [moved_nm dx dy dz k xs j hj']
        exact HS.out _ (List.getElem_mem hj')
      have HYS := hide hys
      have e2 := hide (e.out.trans (by rw [← hyy]) : mvOf xs k dx dy dz = if rowsB vPlaceR PlaceR.nm 24 ys then (ys, 0) else ([], 6))
      clear hyy hys hy
      go_wp2_with fail
      refine (implValidPlaces A' c' ys _ (Own.at_ (enc := encPlace) (sz := 5) (fun _ => rfl) HO.out) (by omega) HYS.out).mono ?_
      rintro e3 w5 ⟨rfl, hb5⟩
      have ho5 := hide (HO.out.below hb5)
      have HB5 := hide (hb.trans (hb5.mono hz))
      clear hb5
      cases hq : rowsB vPlaceR PlaceR.nm 24 ys
      · have e4 : Hid (mvOf xs k dx dy dz = ([], 6)) := hide (by rw [e2.out, hq]; rfl)
        go_wp2_with fail
        go_ret2
        exact slRes_nil e4.out HB5.out
      · have e4 : Hid (mvOf xs k dx dy dz = (ys, 0)) := hide (by rw [e2.out, hq]; rfl)
        go_wp2_with fail
        go_ret2
        exact ⟨A', c', ys, 0, rfl, e4.out, by omega, ho5.out, HB5.out⟩
theorem implMovePlace (A : Option Addr) (c : Nat) (xs : List PlaceR) (k dx dy dz : Int) (w : World) (h : SlAt encPlace 5 w A xs) (hn : xs.length ≤ 1048576) (hx : ∀ x ∈ xs, x.nm.size ≤ maxLen) :
    Calls Try.prog 38 #[.slice A xs.length c, .int .i64 k, .int .i64 dx, .int .i64 dy, .int .i64 dz] w (SlRes encPlace 5 117 (fun ys code => mvOf xs k dx dy dz = (ys, code)) w) := by
  cases hr : rowsB vPlaceR PlaceR.nm 24 xs
  · exact implMovePlace_bad A c xs k dx dy dz w h hn hx (.inl hr)
  · cases hb : (inB k 0 ((xs.length : Int) - 1) && inB dx (-20000) 20000 && inB dy (-20000) 20000 && inB dz (-20000) 20000)
    · exact implMovePlace_bad A c xs k dx dy dz w h hn hx (.inr ⟨hr, hb⟩)
    · simp only [Bool.and_eq_true] at hb
      obtain ⟨⟨⟨b1, b2⟩, b3⟩, b4⟩ := hb
      have hk := inB_true b1
      obtain ⟨m, rfl⟩ : ∃ m : Nat, k = m := ⟨k.toNat, by omega⟩
      exact implMovePlace_ok A c xs m dx dy dz w h hn hx hr b1 b2 b3 b4
set_option maxRecDepth 100000 in
theorem specMovePlace_bad (A : Option Addr) (c : Nat) (xs : List PlaceR) (k dx dy dz : Int) (w : World) (h : SlAt encPlace 5 w A xs) (hn : xs.length ≤ 1048576) (hx : ∀ x ∈ xs, x.nm.size ≤ maxLen)
    (hb : rowsB vPlaceR PlaceR.nm 24 xs = false ∨ (rowsB vPlaceR PlaceR.nm 24 xs = true ∧ (inB k 0 ((xs.length : Int) - 1) && inB dx (-20000) 20000 && inB dy (-20000) 20000 && inB dz (-20000) 20000) = false)) :
    Calls Try.prog 36 #[.slice A xs.length c, .int .i64 k, .int .i64 dx, .int .i64 dy, .int .i64 dz] w (SlRes encPlace 5 117 (fun ys code => mvOf xs k dx dy dz = (ys, code)) w) := by
  have HX := hide h
  have HS := hide hx
  clear h hx
  rcases hb with hr | ⟨hr, hb⟩
  · have e : Hid (mvOf xs k dx dy dz = ([], 1)) := mvOf_1 hr
    go_enter Try.func36, Try.ntmps36
    go_wp2_with fail
    refine (specl23Ok A c xs _ HX.out hn HS.out).mono ?_
    rintro e w1 ⟨rfl, hb1⟩
    obtain ⟨fcb1, ffb1, fzb1⟩ := bfacts hb1 (by first | exact Nat.le_refl _ | omega | (simp; omega) | simp); have fsb1 := hb1.size; try simp at fcb1 ffb1 fzb1 fsb1 hb1
    go_wp2_with fail
    go_ret2
    exact slRes_nil e.out (by repeat (first | with_reducible exact Below.refl _ _ | with_reducible assumption | (with_reducible refine Below.drew ?_) | (with_reducible refine below_drewN ?_ _) | ((with_reducible refine Below.alloc ?_ ?_ _); rotate_left; (focus (first | omega | (simp; omega) | simp))) | ((with_reducible refine Below.setCell ?_ ?_ _); rotate_left; (focus (first | omega | (simp; omega) | simp))) | (refine Below.trans ?_ (Below.mono (by assumption) (by first | omega | (simp; omega) | simp)))))
  · have e : Hid (mvOf xs k dx dy dz = ([], 2)) := mvOf_2 hr hb
    have HB := hide hb
    clear hb
    cases h1 : inB k 0 ((xs.length : Int) - 1) <;> cases h2 : inB dx (-20000) 20000 <;> cases h3 : inB dy (-20000) 20000 <;> cases h4 : inB dz (-20000) 20000
    all_goals first | (exfalso; have := HB.out; rw [h1, h2, h3, h4] at this; cases this; done) | skip
    all_goals
      go_enter Try.func36, Try.ntmps36
      go_wp2_with fail
      refine (specl23Ok A c xs _ HX.out hn HS.out).mono ?_
      rintro e w1 ⟨rfl, hb1⟩
      obtain ⟨fcb1, ffb1, fzb1⟩ := bfacts hb1 (by first | exact Nat.le_refl _ | omega | (simp; omega) | simp); have fsb1 := hb1.size; try simp at fcb1 ffb1 fzb1 fsb1 hb1
      go_wp2_with (go_at_call 61; refine (specl00In_any _ _ _ _).mono ?_; rintro e2 w2 ⟨rfl, rfl⟩)
      go_ret2
      exact slRes_nil e.out (by repeat (first | with_reducible exact Below.refl _ _ | with_reducible assumption | (with_reducible refine Below.drew ?_) | (with_reducible refine below_drewN ?_ _) | ((with_reducible refine Below.alloc ?_ ?_ _); rotate_left; (focus (first | omega | (simp; omega) | simp))) | ((with_reducible refine Below.setCell ?_ ?_ _); rotate_left; (focus (first | omega | (simp; omega) | simp))) | (refine Below.trans ?_ (Below.mono (by assumption) (by first | omega | (simp; omega) | simp)))))
theorem set_moved {dx dy dz : Int} {k : Nat} {xs : List PlaceR} (h : k < xs.length) {x0 : ByteArray} {x1 x2 x3 x4 : Int} (hx : xs[k] = ⟨x0, x1, x2, x3, x4⟩) :
    (((xs.flatMap encPlace).set (k * 5 + 1) (.int .i64 (x1 + dx))).set (k * 5 + 2) (.int .i64 (x2 + dy))).set (k * 5 + 3) (.int .i64 (x3 + dz)) = (moved dx dy dz k xs).flatMap encPlace := by
  have e1 : xs = xs.take k ++ ⟨x0, x1, x2, x3, x4⟩ :: xs.drop (k + 1) := by rw [← hx, ← List.drop_eq_getElem_cons h, List.take_append_drop]
  have e2 : moved dx dy dz k xs = xs.take k ++ mvd dx dy dz ⟨x0, x1, x2, x3, x4⟩ :: xs.drop (k + 1) := by
    refine List.ext_getElem (by rw [moved_len]; simp; omega) fun i h1 h2 => ?_
    have hi : i < xs.length := by rwa [moved_len] at h1
    rw [moved_get dx dy dz k xs i hi]
    by_cases hik : i = k
    · subst hik
      rw [if_pos rfl, List.getElem_append_right (by simp; omega), hx]
      simp [Nat.min_eq_left (Nat.le_of_lt h)]
    · rw [if_neg hik]
      by_cases hlt : i < k
      · rw [List.getElem_append_left (by simp; omega)]; simp
      · rw [List.getElem_append_right (by simp; omega)]
        obtain ⟨d, rfl⟩ : ∃ d, i = k + 1 + d := ⟨i - (k + 1), by omega⟩
        simp [Nat.min_eq_left (Nat.le_of_lt h), show k + 1 + d - k = d + 1 by omega]
  have hl := flat_length (enc := encPlace) (sz := 5) (fun _ => rfl) (xs.take k)
  rw [List.length_take, Nat.min_eq_left (Nat.le_of_lt h)] at hl
  rw [e2]
  conv => lhs; rw [e1]
  rw [List.flatMap_append, List.flatMap_append, List.flatMap_cons, List.flatMap_cons]
  generalize (xs.take k).flatMap encPlace = P at *
  generalize (xs.drop (k + 1)).flatMap encPlace = C
  rw [← hl]
  simp [encPlace, mvd]
set_option maxRecDepth 100000 in
theorem wpList_allPlace {w : World} {ops : Array Oper} {rest : List Oper} {o : Oper} {a : Act} {Q : Exit → Act → World → Prop} (hgd : o.guard = none) (s x : Operand) (ho : o.op = .call { callee := .builtin .append, args := #[s, x], argTypes := #[56, 56] }) (B : Nat) {v : Value} (hs : a.eval s = v)
    (hown : Own encPlace 5 117 w B v ([] : List PlaceR)) {b off c : Nat} {ys : List PlaceR} (hx : a.eval x = .slice (some ⟨b, off, none⟩) ys.length c) (hy : SlAt encPlace 5 w (some ⟨b, off, none⟩) ys) (hn : ys.length ≤ 1048576) (hB : B ≤ w.heap.size)
    (h : ∀ (A : Option Addr) (c : Nat) (w' : World), Own encPlace 5 117 w' B (.slice A ys.length c) ys → Below B w w' → wpList Try.prog ops Q rest (a.put o.dst (.slice A ys.length c)) w') : wpList Try.prog ops Q (o :: rest) a w := by
  obtain ⟨i0, hi, hz0, hz1, hz2⟩ := info_parts infoA_Place
  refine wpList_appAll Try.underlying56 hi hz0 hz1 hz2 rfl (by omega) (by omega) (fun _ => rfl) one_Place hgd s x ho B hs hown hx hy (by simp; omega) hB fun A c w' h1 h2 _ => ?_
  simp only [List.length_nil, Nat.zero_add, List.nil_append] at h1 ⊢
  exact h A c w' h1 h2
theorem placeCells {w : World} {B g c k : Nat} {xs : List PlaceR} (h : Own encPlace 5 117 w B (.slice (some ⟨g, 0, none⟩) xs.length c) xs) (hk : k < xs.length) {x0 : ByteArray} {x1 x2 x3 x4 : Int} (hx : xs[k] = ⟨x0, x1, x2, x3, x4⟩) :
    w.cell? ⟨g, k * 5, none⟩ = some (.string x0) ∧ w.cell? ⟨g, k * 5 + 1, none⟩ = some (.int .i64 x1) ∧ w.cell? ⟨g, k * 5 + 2, none⟩ = some (.int .i64 x2) ∧ w.cell? ⟨g, k * 5 + 3, none⟩ = some (.int .i64 x3) ∧ w.cell? ⟨g, k * 5 + 4, none⟩ = some (.int .i64 x4) ∧
    w.frozen? ⟨g, k * 5 + 1, none⟩ = false ∧ w.frozen? ⟨g, k * 5 + 2, none⟩ = false ∧ w.frozen? ⟨g, k * 5 + 3, none⟩ = false := by
  obtain ⟨b, off, e, _, hc⟩ := Own.at_ (enc := encPlace) (sz := 5) (fun _ => rfl) h k hk
  injection e with e
  injection e with e1 e2
  subst e1; subst e2
  rw [hx] at hc
  have c0 := hc 0 _ rfl
  have c1 := hc 1 _ rfl
  have c2 := hc 2 _ rfl
  have c3 := hc 3 _ rfl
  have c4 := hc 4 _ rfl
  simp only [Nat.zero_add, Nat.add_zero] at c0 c1 c2 c3 c4
  exact ⟨c0, c1, c2, c3, c4, World.ownsRow.frozenAt h _, World.ownsRow.frozenAt h _, World.ownsRow.frozenAt h _⟩
set_option maxRecDepth 100000 in
set_option maxHeartbeats 1000000 in
theorem specMovePlace_ok (A : Option Addr) (c : Nat) (xs : List PlaceR) (k : Nat) (dx dy dz : Int) (w : World) (h : SlAt encPlace 5 w A xs) (hn : xs.length ≤ 1048576) (hx : ∀ x ∈ xs, x.nm.size ≤ maxLen)
    (hr : rowsB vPlaceR PlaceR.nm 24 xs = true) (h1 : inB (k : Int) 0 ((xs.length : Int) - 1) = true) (h2 : inB dx (-20000) 20000 = true) (h3 : inB dy (-20000) 20000 = true) (h4 : inB dz (-20000) 20000 = true) :
    Calls Try.prog 36 #[.slice A xs.length c, .int .i64 k, .int .i64 dx, .int .i64 dy, .int .i64 dz] w (SlRes encPlace 5 117 (fun ys code => mvOf xs k dx dy dz = (ys, code)) w) := by
  have hk : k < xs.length := by have := inB_true h1; omega
  have e : Hid (mvOf xs k dx dy dz = if vPlaceR (mvd dx dy dz xs[k]) then (moved dx dy dz k xs, 0) else ([], 6)) := hide ((mvOf_3 (k := k) hr (by rw [h1, h2, h3, h4]; rfl)).trans (by rw [show ((k : Int)).toNat = k by omega, moved_rows hk hr]))
  obtain ⟨rv, rl, -⟩ := rowsB_all hr
  obtain ⟨x0, x1, x2, x3, x4, hxk⟩ : ∃ a b c d e, xs[k] = (⟨a, b, c, d, e⟩ : PlaceR) := ⟨_, _, _, _, _, rfl⟩
  have hvx := rv xs[k] (List.getElem_mem hk)
  have hsx := hx xs[k] (List.getElem_mem hk)
  rw [hxk] at hvx hsx
  have e := e.out
  rw [hxk] at e
  have E := hide e
  clear e
  have HXK := hide hxk
  obtain ⟨_, ⟨v1, v2⟩, ⟨v3, v4⟩, ⟨v5, v6⟩, -⟩ := vPlace_true x0 x1 x2 x3 x4 hvx
  have HX := hide h
  have HS := hide hx
  obtain ⟨a1, a2⟩ := inB_true h2
  obtain ⟨a3, a4⟩ := inB_true h3
  obtain ⟨a5, a6⟩ := inB_true h4
  obtain ⟨b, off, rfl, hbl, -⟩ := h k hk
  clear h hx rv hvx hxk
  go_enter Try.func36, Try.ntmps36
  go_wp2_with fail
  refine (specl23Ok _ c xs _ HX.out hn HS.out).mono ?_
  rintro e w1 ⟨rfl, hb1⟩
  obtain ⟨fcb1, ffb1, fzb1⟩ := bfacts hb1 (by first | exact Nat.le_refl _ | omega | (simp; omega) | simp); have fsb1 := hb1.size; try simp at fcb1 ffb1 fzb1 fsb1 hb1
  have HX1 := hide (HX.out.below hb1)
  have HB1 := hide hb1
  clear hb1 fcb1 ffb1 fzb1
  go_wp2_with (first
    | (go_at_call 61; refine (specl00In_any _ _ _ _).mono ?_; rintro e2 w2 ⟨rfl, rfl⟩)
    | (at_builtin; refine wpList_allPlace rfl _ _ rfl w.heap.size rfl (own_made w1 rfl fsb1) rfl (HX1.out.below ((Below.refl _ _).alloc (Nat.le_refl _) _)) hn ?_ ?_; (focus (simp; omega)); intro A1 c1 w2 ho2 hb2; obtain ⟨g, rfl, hg1, hg2⟩ := own_addr ho2 (by omega); obtain ⟨q0, q1, q2, q3, q4, f1, f2, f3⟩ := placeCells ho2 hk HXK.out))
  refine (specl23One g (k * 5) x0 (x1 + dx) (x2 + dy) (x3 + dz) x4 _ hsx (by go_simp) (by go_simp) (by go_simp) (by go_simp) (by go_simp)).mono ?_
  rintro e2 w3 ⟨rfl, rfl⟩
  have s1 := World.ownsRow.stored ho2 (k * 5 + 1) (.int .i64 (x1 + dx))
  have s2 := World.ownsRow.stored s1.1 (k * 5 + 2) (.int .i64 (x2 + dy))
  have s3 := World.ownsRow.stored s2.1 (k * 5 + 3) (.int .i64 (x3 + dz))
  have s4 := s3.1
  rw [set_moved hk HXK.out] at s4
  have HO := hide s4
  have HB := hide (Below.trans (HB1.out.alloc fsb1 _) hb2)
  clear s1 s2 s3 s4 q0 q1 q2 q3 q4 hb2
  cases hq : vPlace x0 (x1 + dx) (x2 + dy) (x3 + dz) x4
  · have e4 : Hid (mvOf xs k dx dy dz = ([], 6)) := hide (by rw [E.out]; show (if vPlace x0 (x1 + dx) (x2 + dy) (x3 + dz) x4 = true then _ else _) = _; rw [hq]; rfl)
    go_wp2_with fail
    go_ret2
    exact slRes_nil e4.out (((HB.out.setCell hg1 _).setCell hg1 _).setCell hg1 _)
  · have e4 : Hid (mvOf xs k dx dy dz = (moved dx dy dz k xs, 0)) := hide (by rw [E.out]; show (if vPlace x0 (x1 + dx) (x2 + dy) (x3 + dz) x4 = true then _ else _) = _; rw [hq]; rfl)
    have hml := moved_len dx dy dz k xs
    go_wp2_with fail
    go_ret2
    exact ⟨some ⟨g, 0, none⟩, c1, moved dx dy dz k xs, 0, by rw [moved_len]; rfl, e4.out, by omega, by unfold Own; rw [moved_len]; exact HO.out, ((HB.out.setCell hg1 _).setCell hg1 _).setCell hg1 _⟩
theorem specMovePlace (A : Option Addr) (c : Nat) (xs : List PlaceR) (k dx dy dz : Int) (w : World) (h : SlAt encPlace 5 w A xs) (hn : xs.length ≤ 1048576) (hx : ∀ x ∈ xs, x.nm.size ≤ maxLen) :
    Calls Try.prog 36 #[.slice A xs.length c, .int .i64 k, .int .i64 dx, .int .i64 dy, .int .i64 dz] w (SlRes encPlace 5 117 (fun ys code => mvOf xs k dx dy dz = (ys, code)) w) := by
  cases hr : rowsB vPlaceR PlaceR.nm 24 xs
  · exact specMovePlace_bad A c xs k dx dy dz w h hn hx (.inl hr)
  · cases hb : (inB k 0 ((xs.length : Int) - 1) && inB dx (-20000) 20000 && inB dy (-20000) 20000 && inB dz (-20000) 20000)
    · exact specMovePlace_bad A c xs k dx dy dz w h hn hx (.inr ⟨hr, hb⟩)
    · simp only [Bool.and_eq_true] at hb
      obtain ⟨⟨⟨b1, b2⟩, b3⟩, b4⟩ := hb
      have hk := inB_true b1
      obtain ⟨m, rfl⟩ : ∃ m : Nat, k = m := ⟨k.toNat, by omega⟩
      exact specMovePlace_ok A c xs m dx dy dz w h hn hx hr b1 b2 b3 b4
set_option maxRecDepth 100000 in
set_option maxHeartbeats 2000000 in
theorem lawMovePlace (A : Option Addr) (c : Nat) (xs : List PlaceR) (k dx dy dz : Int) (w : World) (hx : SlAt encPlace 5 w A xs) (hl : xs.length ≤ 9223372036854775807) (hxs : ∀ x ∈ xs, x.nm.size ≤ maxLen) :
    Calls Try.prog 9 #[.slice A xs.length c, .int .i64 k, .int .i64 dx, .int .i64 dy, .int .i64 dz] w fun e w' => e = .returned (.bool true) ∧ Below w.heap.size w w' := by
  have hbW : Below w.heap.size w w := (by repeat (first | with_reducible exact Below.refl _ _ | with_reducible assumption | (with_reducible refine Below.drew ?_) | (with_reducible refine below_drewN ?_ _) | ((with_reducible refine Below.alloc ?_ ?_ _); rotate_left; (focus (first | omega | (simp; omega) | simp))) | ((with_reducible refine Below.setCell ?_ ?_ _); rotate_left; (focus (first | omega | (simp; omega) | simp))) | (refine Below.trans ?_ (Below.mono (by assumption) (by first | omega | (simp; omega) | simp)))))
  have HBW := hide hbW
  have HX := hide (hx.below hbW)
  have HS := hide hxs
  clear hxs
  clear hbW hx
  go_enter Try.func9, Try.ntmps9
  go_wp2_with fail
  refine (lawsszPlaceS_any A c xs _ _ HX.out hl HS.out (by omega) (by omega)).mono ?_
  rintro e w1 ⟨r2, rfl, ra2, rb2, hr2, hb1⟩
  have z1 := hb1.size
  have B1 : Hid (Below w.heap.size w w1) := hide hb1
  clear hb1
  by_cases hq2 : 0 ≤ r2
  · have _hq := hq2
    have hn : xs.length ≤ 1048576 := by have := hr2 hq2; omega
    clear hr2
    go_wp2_with fail
    refine (lawstoPlaceS_o A c xs _ (HX.out.below B1.out) hn).mono ?_
    rintro e w2 ⟨bY, rfl, hOY, hb2⟩
    have z2 : w.heap.size ≤ w2.heap.size := Nat.le_trans z1 hb2.size
    have y2 : w1.heap.size ≤ w2.heap.size := hb2.size
    have B2 : Hid (Below w.heap.size w w2) := hide (B1.out.trans (hb2.mono z1))
    clear B1 hb2
    have Y_2 := hide hOY
    have Y_lt := hide (fun k hk => ((hOY).lt k hk).2)
    clear hOY
    go_wp2_with fail
    refine (specMovePlace _ _ xs k dx dy dz _ ((Y_2.out).at_ (fun _ => rfl)) hn HS.out).mono ?_
    rintro e w3 ⟨A0, c0, xs0, code0, rfl, hR0, hn0, hO0, hb3⟩
    have z3 : w.heap.size ≤ w3.heap.size := Nat.le_trans z2 hb3.size
    have y3 : w2.heap.size ≤ w3.heap.size := hb3.size
    have B3 : Hid (Below w.heap.size w w3) := hide (B2.out.trans (hb3.mono z2))
    have Y_3 := hide (Y_2.out.below hb3)
    clear Y_2 B2 hb3
    have S0_3 := hide hO0
    have S0_lt := hide (fun k hk => ((hO0).lt k hk).2)
    clear hO0
    go_wp2_with fail
    refine (lawstoPlaceS_o A c xs _ (HX.out.below B3.out) hn).mono ?_
    rintro e w4 ⟨bX, rfl, hOX, hb4⟩
    have z4 : w.heap.size ≤ w4.heap.size := Nat.le_trans z3 hb4.size
    have y4 : w3.heap.size ≤ w4.heap.size := hb4.size
    have B4 : Hid (Below w.heap.size w w4) := hide (B3.out.trans (hb4.mono z3))
    have Y_4 := hide (Y_3.out.below hb4)
    have S0_4 := hide (S0_3.out.below hb4)
    clear Y_3 S0_3 B3 hb4
    have X_4 := hide hOX
    have X_lt := hide (fun k hk => ((hOX).lt k hk).2)
    clear hOX
    go_wp2_with fail
    refine (implMovePlace _ _ xs k dx dy dz _ ((X_4.out).at_ (fun _ => rfl)) hn HS.out).mono ?_
    rintro e w5 ⟨A1, c1, xs1, code1, rfl, hR1, hn1, hO1, hb5⟩
    have z5 : w.heap.size ≤ w5.heap.size := Nat.le_trans z4 hb5.size
    have y5 : w4.heap.size ≤ w5.heap.size := hb5.size
    have B5 : Hid (Below w.heap.size w w5) := hide (B4.out.trans (hb5.mono z4))
    have Y_5 := hide (Y_4.out.below hb5)
    have S0_5 := hide (S0_4.out.below hb5)
    have X_5 := hide (X_4.out.below hb5)
    clear Y_4 S0_4 X_4 B4 hb5
    have G0_5 := hide hO1
    have G0_lt := hide (fun k hk => ((hO1).lt k hk).2)
    clear hO1
    obtain ⟨rfl, rfl⟩ := pair_det hR0 hR1
    clear hR1 hn1
    have hR0 := hide hR0
    go_wp2_with fail
    refine (lawseqPlaceS_same _ _ _ _ xs0 _ ((G0_5.out).at_ (fun _ => rfl)) ((S0_5.out).at_ (fun _ => rfl)) hn0).mono ?_
    rintro e w6 ⟨rfl, hb6⟩
    have z6 : w.heap.size ≤ w6.heap.size := Nat.le_trans z5 hb6.size
    have y6 : w5.heap.size ≤ w6.heap.size := hb6.size
    have B6 : Hid (Below w.heap.size w w6) := hide (B5.out.trans (hb6.mono z5))
    have Y_6 := hide (Y_5.out.below hb6)
    have S0_6 := hide (S0_5.out.below hb6)
    have X_6 := hide (X_5.out.below hb6)
    have G0_6 := hide (G0_5.out.below hb6)
    clear Y_5 S0_5 X_5 G0_5 B5 hb6
    go_wp2_with fail
    refine (lawstoPlaceS_o A c xs _ (HX.out.below B6.out) hn).mono ?_
    rintro e w7 ⟨bXe, rfl, hOXe, hb7⟩
    have z7 : w.heap.size ≤ w7.heap.size := Nat.le_trans z6 hb7.size
    have y7 : w6.heap.size ≤ w7.heap.size := hb7.size
    have B7 : Hid (Below w.heap.size w w7) := hide (B6.out.trans (hb7.mono z6))
    have Y_7 := hide (Y_6.out.below hb7)
    have S0_7 := hide (S0_6.out.below hb7)
    have X_7 := hide (X_6.out.below hb7)
    have G0_7 := hide (G0_6.out.below hb7)
    clear Y_6 S0_6 X_6 G0_6 B6 hb7
    have Xe_7 := hide hOXe
    have Xe_lt := hide (fun k hk => ((hOXe).lt k hk).2)
    clear hOXe
    go_wp2_with fail
    refine (lawseqPlaceS_same _ _ _ _ xs _ ((X_7.out).at_ (fun _ => rfl)) ((Xe_7.out).at_ (fun _ => rfl)) hn).mono ?_
    rintro e w8 ⟨rfl, hb8⟩
    have z8 : w.heap.size ≤ w8.heap.size := Nat.le_trans z7 hb8.size
    have y8 : w7.heap.size ≤ w8.heap.size := hb8.size
    have B8 : Hid (Below w.heap.size w w8) := hide (B7.out.trans (hb8.mono z7))
    have Y_8 := hide (Y_7.out.below hb8)
    have S0_8 := hide (S0_7.out.below hb8)
    have X_8 := hide (X_7.out.below hb8)
    have G0_8 := hide (G0_7.out.below hb8)
    have Xe_8 := hide (Xe_7.out.below hb8)
    clear Y_7 S0_7 X_7 G0_7 Xe_7 B7 hb8
    clear Xe_8 Xe_lt
    go_wp2_with fail
    refine (lawsmarkPlaceS _ _ _ xs _ _ X_8.out hn (by omega) (by omega)).mono ?_
    rintro e w9 ⟨rfl, hO, hg⟩
    have hge := fun k hk => (X_8.out.lt k hk).1
    have y9 := hg.size
    have z9 : w.heap.size ≤ w9.heap.size := Nat.le_trans z8 y9
    have B9 : Hid (Below w.heap.size w w9) := hide (Below.grown B8.out hg z8 fun k hk => Nat.le_trans z3 (hge k hk))
    have Y_9 := hide (kept_older Y_8.out Y_lt.out hg hge (by omega))
    have S0_9 := hide (kept_older S0_8.out S0_lt.out hg hge (by omega))
    have X_9 := hide hO
    have G0_9 := hide (kept_newer G0_8.out hg X_lt.out (by omega))
    clear Y_8 S0_8 X_8 G0_8 B8 hO hg hge
    clear X_9 X_lt
    go_wp2_with fail
    refine (lawseqPlaceS_same _ _ _ _ xs0 _ ((G0_9.out).at_ (fun _ => rfl)) ((S0_9.out).at_ (fun _ => rfl)) hn0).mono ?_
    rintro e w10 ⟨rfl, hb10⟩
    have z10 : w.heap.size ≤ w10.heap.size := Nat.le_trans z9 hb10.size
    have y10 : w9.heap.size ≤ w10.heap.size := hb10.size
    have B10 : Hid (Below w.heap.size w w10) := hide (B9.out.trans (hb10.mono z9))
    have Y_10 := hide (Y_9.out.below hb10)
    have S0_10 := hide (S0_9.out.below hb10)
    have G0_10 := hide (G0_9.out.below hb10)
    clear Y_9 S0_9 G0_9 B9 hb10
    go_wp2_with fail
    refine (lawsmarkPlaceS _ _ _ xs0 _ _ G0_10.out hn0 (by omega) (by omega)).mono ?_
    rintro e w11 ⟨rfl, hO, hg⟩
    have hge := fun k hk => (G0_10.out.lt k hk).1
    have y11 := hg.size
    have z11 : w.heap.size ≤ w11.heap.size := Nat.le_trans z10 y11
    have B11 : Hid (Below w.heap.size w w11) := hide (Below.grown B10.out hg z10 fun k hk => Nat.le_trans z4 (hge k hk))
    have Y_11 := hide (kept_older Y_10.out Y_lt.out hg hge (by omega))
    have S0_11 := hide (kept_older S0_10.out S0_lt.out hg hge (by omega))
    have G0_11 := hide hO
    clear Y_10 S0_10 G0_10 B10 hO hg hge
    go_wp2_with fail
    refine (held_own_Place G0_11.out hn0 (by omega) (by omega)).mono ?_
    rintro e w12 ⟨rfl, hb12⟩
    have z12 : w.heap.size ≤ w12.heap.size := Nat.le_trans z11 hb12.size
    have y12 : w11.heap.size ≤ w12.heap.size := hb12.size
    have B12 : Hid (Below w.heap.size w w12) := hide (B11.out.trans (hb12.mono z11))
    have Y_12 := hide (Y_11.out.below hb12)
    have S0_12 := hide (S0_11.out.below hb12)
    have G0_12 := hide (G0_11.out.below hb12)
    clear Y_11 S0_11 G0_11 B11 hb12
    go_wp2_with fail
    refine (lawstoPlaceS_o A c xs _ (HX.out.below B12.out) hn).mono ?_
    rintro e w13 ⟨bYh, rfl, hOYh, hb13⟩
    have z13 : w.heap.size ≤ w13.heap.size := Nat.le_trans z12 hb13.size
    have y13 : w12.heap.size ≤ w13.heap.size := hb13.size
    have B13 : Hid (Below w.heap.size w w13) := hide (B12.out.trans (hb13.mono z12))
    have Y_13 := hide (Y_12.out.below hb13)
    have S0_13 := hide (S0_12.out.below hb13)
    have G0_13 := hide (G0_12.out.below hb13)
    clear Y_12 S0_12 G0_12 B12 hb13
    have Yh_13 := hide hOYh
    have Yh_lt := hide (fun k hk => ((hOYh).lt k hk).2)
    clear hOYh
    go_wp2_with fail
    refine (implMovePlace _ _ xs k dx dy dz _ ((Yh_13.out).at_ (fun _ => rfl)) hn HS.out).mono ?_
    rintro e w14 ⟨A2, c2, xs2, code2, rfl, hR2, hn2, hO2, hb14⟩
    have z14 : w.heap.size ≤ w14.heap.size := Nat.le_trans z13 hb14.size
    have y14 : w13.heap.size ≤ w14.heap.size := hb14.size
    have B14 : Hid (Below w.heap.size w w14) := hide (B13.out.trans (hb14.mono z13))
    have Y_14 := hide (Y_13.out.below hb14)
    have S0_14 := hide (S0_13.out.below hb14)
    have G0_14 := hide (G0_13.out.below hb14)
    have Yh_14 := hide (Yh_13.out.below hb14)
    clear Y_13 S0_13 G0_13 Yh_13 B13 hb14
    have H0_14 := hide hO2
    have H0_lt := hide (fun k hk => ((hO2).lt k hk).2)
    clear hO2
    obtain ⟨rfl, rfl⟩ := pair_det hR0.out hR2
    go_wp2_with fail
    refine (lawseqPlaceS_same _ _ _ _ xs0 _ ((H0_14.out).at_ (fun _ => rfl)) ((S0_14.out).at_ (fun _ => rfl)) hn0).mono ?_
    rintro e w15 ⟨rfl, hb15⟩
    have z15 : w.heap.size ≤ w15.heap.size := Nat.le_trans z14 hb15.size
    have y15 : w14.heap.size ≤ w15.heap.size := hb15.size
    have B15 : Hid (Below w.heap.size w w15) := hide (B14.out.trans (hb15.mono z14))
    have Y_15 := hide (Y_14.out.below hb15)
    have S0_15 := hide (S0_14.out.below hb15)
    have G0_15 := hide (G0_14.out.below hb15)
    have Yh_15 := hide (Yh_14.out.below hb15)
    have H0_15 := hide (H0_14.out.below hb15)
    clear Y_14 S0_14 G0_14 Yh_14 H0_14 B14 hb15
    go_wp2_with fail
    refine (held_own_Place G0_15.out hn0 (by omega) (by omega)).mono ?_
    rintro e w16 ⟨rfl, hb16⟩
    have z16 : w.heap.size ≤ w16.heap.size := Nat.le_trans z15 hb16.size
    have y16 : w15.heap.size ≤ w16.heap.size := hb16.size
    have B16 : Hid (Below w.heap.size w w16) := hide (B15.out.trans (hb16.mono z15))
    have Y_16 := hide (Y_15.out.below hb16)
    have S0_16 := hide (S0_15.out.below hb16)
    have G0_16 := hide (G0_15.out.below hb16)
    have Yh_16 := hide (Yh_15.out.below hb16)
    have H0_16 := hide (H0_15.out.below hb16)
    clear Y_15 S0_15 G0_15 Yh_15 H0_15 B15 hb16
    go_wp2_with fail
    go_ret
    exact ⟨rfl, Below.trans HBW.out (B16.out.mono (by simp))⟩
  · go_wp2_with fail
    go_ret
    exact ⟨rfl, Below.trans HBW.out (B1.out.mono (by simp))⟩
end Go.Proofs.Ytdimapcecdffnaa
