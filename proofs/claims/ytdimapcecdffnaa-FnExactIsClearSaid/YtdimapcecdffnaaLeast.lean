/- The least room between bells, on both sides, and its law's walk. -/
import Derived.Test.YtdimapcecdffnaaRoom
import Derived.Test.YtdimapcecdffnaaRows2
import Derived.Test.YtdimapcecdffnaaInts
namespace Go.Proofs.Ytdimapcecdffnaa
open Go.RowKit

theorem rowsB_all {α : Type} {v : α → Bool} {nm : α → ByteArray} {N : Nat} {xs : List α} (h : rowsB v nm N xs = true) : (∀ x ∈ xs, v x = true) ∧ xs.length ≤ N ∧ ∀ k, ¬ badAt v nm xs k := by
  unfold rowsB at h
  obtain ⟨h1, h2⟩ := @of_decide_eq_true _ (Classical.propDecidable _) h
  refine ⟨fun x hx => ?_, h2, h1⟩
  obtain ⟨k, hk, rfl⟩ := List.getElem_of_mem hx
  cases e : v xs[k]
  · exact absurd ⟨hk, .inl e⟩ (h1 k)
  · rfl
/-- The room between two places. -/
def clP (p q : PlaceR) : Int := clr p.x p.y p.z p.r q.x q.y q.z q.r
theorem sq_neg (a b : Int) : (a - b) * (a - b) = (b - a) * (b - a) := by rw [← Int.neg_mul_neg, show -(a - b) = b - a by omega]
theorem clP_comm (p q : PlaceR) : clP p q = clP q p := by
  unfold clP clr
  rw [sq_neg p.x q.x, sq_neg p.y q.y, sq_neg p.z q.z]
  omega
theorem clr_bd {x y z r x' y' z' r' : Int} {s s' : ByteArray} (h : vPlace s x y z r = true) (h' : vPlace s' x' y' z' r' = true) : -10000 ≤ clr x y z r x' y' z' r' ∧ clr x y z r x' y' z' r' ≤ 40000 := by
  obtain ⟨_, ⟨a1, a2⟩, ⟨a3, a4⟩, ⟨a5, a6⟩, ⟨a7, a8⟩⟩ := vPlace_true _ _ _ _ _ h
  obtain ⟨_, ⟨b1, b2⟩, ⟨b3, b4⟩, ⟨b5, b6⟩, ⟨b7, b8⟩⟩ := vPlace_true _ _ _ _ _ h'
  obtain ⟨c1, c2⟩ := sq_bd a1 a2 b1 b2
  obtain ⟨c3, c4⟩ := sq_bd a3 a4 b3 b4
  obtain ⟨c5, c6⟩ := sq_bd a5 a6 b5 b6
  have r1 := Pl.rt_nonneg ((x - x') * (x - x') + (y - y') * (y - y') + (z - z') * (z - z'))
  have r2 : Pl.rt ((x - x') * (x - x') + (y - y') * (y - y') + (z - z') * (z - z')) ≤ 40000 := Pl.rt_le (by omega) (by omega)
  unfold clr
  omega
/-- m is the room of some pair, and not more than that of the pairs seen. -/
def LeastSo (xs : List PlaceR) (m : Int) (S : Nat → Nat → Prop) : Prop :=
  (∃ (i j : Nat) (h : i < j) (h' : j < xs.length), m = clP (xs[i]'(by omega)) xs[j]) ∧ ∀ (i j : Nat) (h : i < j) (h' : j < xs.length), S i j → m ≤ clP (xs[i]'(by omega)) xs[j]
theorem LeastSo.imp {xs : List PlaceR} {m : Int} {S S' : Nat → Nat → Prop} (h : LeastSo xs m S) (hS : ∀ i j, i < j → j < xs.length → S' i j → S i j) : LeastSo xs m S' := ⟨h.1, fun i j a b c => h.2 i j a b (hS i j a b c)⟩
theorem LeastSo.step {xs : List PlaceR} {m : Int} {S : Nat → Nat → Prop} (h : LeastSo xs m S) {i0 j0 : Nat} (h1 : i0 < j0) (h2 : j0 < xs.length) {c : Int} (hc : c = clP (xs[i0]'(by omega)) xs[j0]) {m' : Int} (hm : (c ≤ m ∧ m' = c) ∨ (m ≤ c ∧ m' = m)) :
    LeastSo xs m' fun i j => S i j ∨ (i = i0 ∧ j = j0) := by
  refine ⟨?_, fun i j a b d => ?_⟩
  · rcases hm with ⟨_, rfl⟩ | ⟨_, rfl⟩
    · exact ⟨i0, j0, h1, h2, hc⟩
    · exact h.1
  · rcases d with d | ⟨rfl, rfl⟩
    · have := h.2 i j a b d
      omega
    · omega
noncomputable def leastV (xs : List PlaceR) : Int := @dite _ (∃ m, LeastSo xs m fun _ _ => True) (Classical.propDecidable _) (fun h => Classical.choose h) (fun _ => 0)
theorem leastV_eq {xs : List PlaceR} {m : Int} (h : LeastSo xs m fun _ _ => True) : leastV xs = m := by
  have hex : ∃ m, LeastSo xs m fun _ _ => True := ⟨m, h⟩
  have e : leastV xs = Classical.choose hex := by unfold leastV; exact dif_pos hex
  have h2 := Classical.choose_spec hex
  rw [e]
  generalize Classical.choose hex = m2 at *
  obtain ⟨i, j, a, b, rfl⟩ := h.1
  obtain ⟨i', j', a', b', rfl⟩ := h2.1
  have := h.2 i' j' a' b' trivial
  have := h2.2 i j a b trivial
  omega
@[irreducible] noncomputable def leastOf (xs : List PlaceR) : Int × Int := if rowsB vPlaceR PlaceR.nm 24 xs then (if xs.length < 2 then (0, 6) else (leastV xs, 0)) else (0, 1)

set_option maxRecDepth 100000 in
set_option maxHeartbeats 1000000 in
theorem implLeastClearance (A : Option Addr) (c : Nat) (xs : List PlaceR) (w : World) (h : SlAt encPlace 5 w A xs) (hn : xs.length ≤ 1048576) (hc : xs.length ≤ c) (hx : ∀ x ∈ xs, x.nm.size ≤ maxLen) :
    Calls Try.prog 43 #[.slice A xs.length c] w fun e w' => e = .returned (two (leastOf xs)) ∧ Below w.heap.size w w' := by
  have HX := hide h
  have HS := hide hx
  clear h hx
  cases hr : rowsB vPlaceR PlaceR.nm 24 xs
  · have e : Hid (leastOf xs = (0, 1)) := by unfold Hid leastOf; simp [hr]
    go_enter Try.func43, Try.ntmps43
    go_wp2_with fail
    refine (implValidPlaces A c xs _ HX.out hn HS.out).mono ?_
    rintro e w1 ⟨rfl, hb1⟩
    obtain ⟨fcb1, ffb1, fzb1⟩ := bfacts hb1 (by first | exact Nat.le_refl _ | omega | (simp; omega) | simp); have fsb1 := hb1.size; try simp at fcb1 ffb1 fzb1 fsb1 hb1
    go_wp2_with fail
    go_ret2
    exact ⟨ret_two e.out, (by repeat (first | with_reducible exact Below.refl _ _ | with_reducible assumption | (with_reducible refine Below.drew ?_) | (with_reducible refine below_drewN ?_ _) | ((with_reducible refine Below.alloc ?_ ?_ _); rotate_left; (focus (first | omega | (simp; omega) | simp))) | ((with_reducible refine Below.setCell ?_ ?_ _); rotate_left; (focus (first | omega | (simp; omega) | simp))) | (refine Below.trans ?_ (Below.mono (by assumption) (by first | omega | (simp; omega) | simp)))))⟩
  · by_cases h2 : xs.length < 2
    · have e : Hid (leastOf xs = (0, 6)) := by unfold Hid leastOf; simp [hr, h2]
      go_enter Try.func43, Try.ntmps43
      go_wp2_with fail
      refine (implValidPlaces A c xs _ HX.out hn HS.out).mono ?_
      rintro e w1 ⟨rfl, hb1⟩
      obtain ⟨fcb1, ffb1, fzb1⟩ := bfacts hb1 (by first | exact Nat.le_refl _ | omega | (simp; omega) | simp); have fsb1 := hb1.size; try simp at fcb1 ffb1 fzb1 fsb1 hb1
      go_wp2_with fail
      go_ret2
      exact ⟨ret_two e.out, (by repeat (first | with_reducible exact Below.refl _ _ | with_reducible assumption | (with_reducible refine Below.drew ?_) | (with_reducible refine below_drewN ?_ _) | ((with_reducible refine Below.alloc ?_ ?_ _); rotate_left; (focus (first | omega | (simp; omega) | simp))) | ((with_reducible refine Below.setCell ?_ ?_ _); rotate_left; (focus (first | omega | (simp; omega) | simp))) | (refine Below.trans ?_ (Below.mono (by assumption) (by first | omega | (simp; omega) | simp)))))⟩
    · have e : Hid (leastOf xs = (leastV xs, 0)) := by unfold Hid leastOf; simp [hr, h2]
      have h2' : 2 ≤ xs.length := by omega
      have h2d : decide ((xs.length : Int) < 2) = false := by simp; omega
      obtain ⟨rv, rl, -⟩ := rowsB_all hr
      have RV := hide rv
      clear rv h2
      obtain ⟨b, off, rfl, hbl, hc0⟩ := HX.out 0 (by omega)
      clear hc0
      go_enter Try.func43, Try.ntmps43
      go_wp2_with fail
      refine (implValidPlaces _ c xs _ HX.out hn HS.out).mono ?_
      rintro e' w1 ⟨rfl, hb1⟩
      have H1 := hide (HX.out.below hb1)
      have get : ∀ k (hk : k < xs.length), b < w1.heap.size ∧ ∀ j v, (encPlace xs[k])[j]? = some v → w1.cell? ⟨b, off + k * 5 + j, none⟩ = some v := fun k hk => by
        obtain ⟨b', off', q1, q2, q3⟩ := H1.out k hk
        injection q1 with q1
        injection q1 with q4 q5
        subst q4; subst q5
        exact ⟨q2, q3⟩
      have GET := hide get
      clear get
      have h01 := hide (RV.out xs[0] (List.getElem_mem (by omega)))
      have h11 := hide (RV.out xs[1] (List.getElem_mem (by omega)))
      have L0 : Hid (LeastSo xs (clP xs[0] xs[1]) fun _ _ => False) := hide ⟨⟨0, 1, by omega, by omega, rfl⟩, fun _ _ _ _ h => h.elim⟩
      have HB1 := hide hb1
      have hbw : b < w1.heap.size := (GET.out 0 (by omega)).1
      clear hb1
      have c0 := (GET.out 0 (by omega)).2
      have c1 := (GET.out 1 (by omega)).2
      generalize hx0 : xs[0] = x at *
      generalize hx1 : xs[1] = y at *
      clear hx0 hx1
      obtain ⟨x0, x1, x2, x3, x4⟩ := x
      obtain ⟨y0, y1, y2, y3, y4⟩ := y
      have a0 := c0 0 _ rfl
      have a1 := c0 1 _ rfl
      have a2 := c0 2 _ rfl
      have a3 := c0 3 _ rfl
      have a4 := c0 4 _ rfl
      have d0 := c1 0 _ rfl
      have d1 := c1 1 _ rfl
      have d2 := c1 2 _ rfl
      have d3 := c1 3 _ rfl
      have d4 := c1 4 _ rfl
      simp at a0 a1 a2 a3 a4 d0 d1 d2 d3 d4
      clear c0 c1
      go_wp2_with fail
      refine wp_region_kept (by kernel_rfl) (by kernel_rfl) ?_
      intro gc gf gz
      repeat (go_big_quiet_step ((go_at_call 96; exact Calls.kept (implclearance x0 y0 x1 x2 x3 x4 y1 y2 y3 y4 _ h01.out h11.out))))
      refine wpQuiet_nil ?_
      intro w2 hw'
      obtain ⟨⟨_, hb2⟩, rfl⟩ := hw'
      clear gc gf gz
      try dsimp only
      have fs2 := hb2.size
      try simp at fs2 hb2
      clear a0 a1 a2 a3 a4 d0 d1 d2 d3 d4
      have M0 := clr_bd h01.out h11.out
      have HB2 := hide hb2
      clear hb2
      go_wp2_with fail
      go_loopw [24, 4] (fun v t wr => ∃ (k : Nat) (m : Int), v = .int .i64 k ∧ t = .int .i64 m ∧ k ≤ xs.length ∧ Hid (LeastSo xs m fun _ j => j < k) ∧ -10000 ≤ m ∧ m ≤ 40000 ∧ Below w1.heap.size w1 wr) (fun v _ _ => xs.length - (intOf v).toNat)
      case atStart => exact ⟨0, _, rfl, rfl, by omega, hide (L0.out.imp fun i j _ _ a => by omega), M0.1, M0.2, HB2.out⟩
      case round =>
        obtain ⟨k, m, rfl, rfl, hk, hL, m0, m1, hb⟩ := hrel
        obtain ⟨wo, rfl⟩ : ∃ wo : World, wo = wr := ⟨_, rfl⟩
        by_cases hlt : k < xs.length
        · have hz := hb.size
          have hbo : b < wo.heap.size := by omega
          have cs : ∀ j v, (encPlace xs[k])[j]? = some v → wo.cell? ⟨b, off + k * 5 + j, none⟩ = some v := fun j v hj => (hb.cell (p := ⟨b, off + k * 5 + j, none⟩) hbw).trans ((GET.out k hlt).2 j v hj)
          have hvk := hide (RV.out xs[k] (List.getElem_mem hlt))
          have HB := hide hb
          clear hb
          generalize hxk : xs[k] = p at *
          have HXK := hide hxk
          clear hxk
          obtain ⟨p0, p1, p2, p3, p4⟩ := p
          have a0 := cs 0 _ rfl
          have a1 := cs 1 _ rfl
          have a2 := cs 2 _ rfl
          have a3 := cs 3 _ rfl
          have a4 := cs 4 _ rfl
          simp only [Nat.add_zero] at a0 a1 a2 a3 a4
          clear cs
          go_wp2_with fail
          clear a0 a1 a2 a3 a4
          go_loopw [33, 4] (fun v t wi => ∃ (j : Nat) (m : Int), v = .int .i64 j ∧ t = .int .i64 m ∧ j ≤ k ∧ Hid (LeastSo xs m fun i' j' => j' < k ∨ (j' = k ∧ i' < j)) ∧ -10000 ≤ m ∧ m ≤ 40000 ∧ Below (wo.heap.size + 1) (wo.alloc (.cells #[.string p0, .int .i64 p1, .int .i64 p2, .int .i64 p3, .int .i64 p4] 117)) wi) (fun v _ _ => k - (intOf v).toNat)
          case atStart => exact ⟨0, m, rfl, rfl, by omega, hide (hL.out.imp fun i j _ _ a => by omega), m0, m1, Below.refl _ _⟩
          case round =>
            obtain ⟨j, m, rfl, rfl, hj, hL, m0, m1, hb⟩ := hrel
            by_cases hjk : j < k
            · have q0 := hb.cell (p := ⟨wo.heap.size, 0, none⟩) (by simp)
              have q1 := hb.cell (p := ⟨wo.heap.size, 1, none⟩) (by simp)
              have q2 := hb.cell (p := ⟨wo.heap.size, 2, none⟩) (by simp)
              have q3 := hb.cell (p := ⟨wo.heap.size, 3, none⟩) (by simp)
              have q4 := hb.cell (p := ⟨wo.heap.size, 4, none⟩) (by simp)
              simp at q0 q1 q2 q3 q4
              have hzi := hb.size
              simp at hzi
              have hzi2 : wo.heap.size < wr.heap.size := by omega
              have hbi : b < wr.heap.size := by omega
              have hbe : Below w1.heap.size w1 wr := (HB.out.alloc (by omega) _).trans (hb.mono (by omega))
              have cs : ∀ i v, (encPlace xs[j])[i]? = some v → wr.cell? ⟨b, off + j * 5 + i, none⟩ = some v := fun i v hi => (hbe.cell (p := ⟨b, off + j * 5 + i, none⟩) hbw).trans ((GET.out j (by omega)).2 i v hi)
              have hvj := hide (RV.out xs[j] (List.getElem_mem (by omega)))
              have HBI := hide hb
              clear hb hbe
              generalize hxj : xs[j] = r at *
              have HXJ := hide hxj
              clear hxj
              obtain ⟨r0, r1, r2, r3, r4⟩ := r
              have a0 := cs 0 _ rfl
              have a1 := cs 1 _ rfl
              have a2 := cs 2 _ rfl
              have a3 := cs 3 _ rfl
              have a4 := cs 4 _ rfl
              simp only [Nat.add_zero] at a0 a1 a2 a3 a4
              clear cs
              go_wp2_with fail
              refine (implclearance p0 r0 p1 p2 p3 p4 r1 r2 r3 r4 _ hvk.out hvj.out).mono ?_
              rintro e' w4 ⟨rfl, hb4⟩
              have hz4 := hb4.size
              simp at hz4
              have M4 := clr_bd hvk.out hvj.out
              have hcl : Hid (clr p1 p2 p3 p4 r1 r2 r3 r4 = clP (xs[j]'(by omega)) xs[k]) := hide (by rw [HXJ.out, HXK.out, clP_comm]; rfl)
              generalize clr p1 p2 p3 p4 r1 r2 r3 r4 = cc at *
              clear a0 a1 a2 a3 a4 q0 q1 q2 q3 q4
              have HB4 := hide hb4
              clear hb4
              by_cases hle : cc < m
              · have hL2 := hide ((hL.out.step hjk hlt hcl.out (m' := cc) (.inl ⟨by omega, rfl⟩)).imp (S' := fun i' j' => j' < k ∨ (j' = k ∧ i' < j + 1)) fun i' j' _ _ a => by omega)
                go_wp2_with fail
                go_roundw
                case rel => exact ⟨j + 1, cc, by go_num, rfl, by omega, hL2, M4.1, M4.2, HBI.out.trans (((Below.refl _ _).alloc hzi _).trans (HB4.out.mono (by simp; omega)))⟩
                case measure => simp [intOf]; omega
              · have hL2 := hide ((hL.out.step hjk hlt hcl.out (m' := m) (.inr ⟨by omega, rfl⟩)).imp (S' := fun i' j' => j' < k ∨ (j' = k ∧ i' < j + 1)) fun i' j' _ _ a => by omega)
                go_wp2_with fail
                go_roundw
                case rel => exact ⟨j + 1, m, by go_num, rfl, by omega, hL2, m0, m1, HBI.out.trans (((Below.refl _ _).alloc hzi _).trans (HB4.out.mono (by simp; omega)))⟩
                case measure => simp [intOf]; omega
            · have hL2 := hide (hL.out.imp (S' := fun _ j' => j' < k + 1) fun i' j' _ _ a => by omega)
              go_wp2_with fail
              go_roundw
              case rel => exact ⟨k + 1, m, by go_num, rfl, by omega, hL2, m0, m1, (HB.out.alloc (by omega) _).trans (hb.mono (by omega))⟩
              case measure => simp [intOf]; omega
        · have e2 : Hid (leastOf xs = (m, 0)) := hide (by rw [e.out, leastV_eq (hL.out.imp fun i j _ _ _ => by omega)])
          go_wp2_with fail
          go_ret2
          exact ⟨ret_two e2.out, HB1.out.trans (hb.mono HB1.out.size)⟩
/-- The smaller of two. -/
def mnI (a b : Int) : Int := if a < b then a else b
theorem specl00Min (a b : Int) (w : World) : Calls Try.prog 95 #[.int .i64 a, .int .i64 b] w fun e w' => e = .returned (.int .i64 (mnI a b)) ∧ w = w' := by
  by_cases h : a < b
  · have e : Hid (mnI a b = a) := by unfold Hid mnI; rw [if_pos h]
    go_enter Try.func95, Try.ntmps95
    go_wp2
    go_ret
    exact ⟨ret_int e.out.symm, rfl⟩
  · have e : Hid (mnI a b = b) := by unfold Hid mnI; rw [if_neg h]
    go_enter Try.func95, Try.ntmps95
    go_wp2
    go_ret
    exact ⟨ret_int e.out.symm, rfl⟩
set_option maxRecDepth 100000 in
set_option maxHeartbeats 1000000 in
theorem specLeastClearance (A : Option Addr) (c : Nat) (xs : List PlaceR) (w : World) (h : SlAt encPlace 5 w A xs) (hn : xs.length ≤ 1048576) (hx : ∀ x ∈ xs, x.nm.size ≤ maxLen) :
    Calls Try.prog 42 #[.slice A xs.length c] w fun e w' => e = .returned (two (leastOf xs)) ∧ Below w.heap.size w w' := by
  have HX := hide h
  have HS := hide hx
  clear h hx
  cases hr : rowsB vPlaceR PlaceR.nm 24 xs
  · have e : Hid (leastOf xs = (0, 1)) := by unfold Hid leastOf; simp [hr]
    go_enter Try.func42, Try.ntmps42
    go_wp2_with fail
    refine (specl23Ok A c xs _ HX.out hn HS.out).mono ?_
    rintro e w1 ⟨rfl, hb1⟩
    obtain ⟨fcb1, ffb1, fzb1⟩ := bfacts hb1 (by first | exact Nat.le_refl _ | omega | (simp; omega) | simp); have fsb1 := hb1.size; try simp at fcb1 ffb1 fzb1 fsb1 hb1
    go_wp2_with fail
    go_ret2
    exact ⟨ret_two e.out, (by repeat (first | with_reducible exact Below.refl _ _ | with_reducible assumption | (with_reducible refine Below.drew ?_) | (with_reducible refine below_drewN ?_ _) | ((with_reducible refine Below.alloc ?_ ?_ _); rotate_left; (focus (first | omega | (simp; omega) | simp))) | ((with_reducible refine Below.setCell ?_ ?_ _); rotate_left; (focus (first | omega | (simp; omega) | simp))) | (refine Below.trans ?_ (Below.mono (by assumption) (by first | omega | (simp; omega) | simp)))))⟩
  · by_cases h2 : xs.length < 2
    · have e : Hid (leastOf xs = (0, 6)) := by unfold Hid leastOf; simp [hr, h2]
      go_enter Try.func42, Try.ntmps42
      go_wp2_with fail
      refine (specl23Ok A c xs _ HX.out hn HS.out).mono ?_
      rintro e w1 ⟨rfl, hb1⟩
      obtain ⟨fcb1, ffb1, fzb1⟩ := bfacts hb1 (by first | exact Nat.le_refl _ | omega | (simp; omega) | simp); have fsb1 := hb1.size; try simp at fcb1 ffb1 fzb1 fsb1 hb1
      go_wp2_with fail
      go_ret2
      exact ⟨ret_two e.out, (by repeat (first | with_reducible exact Below.refl _ _ | with_reducible assumption | (with_reducible refine Below.drew ?_) | (with_reducible refine below_drewN ?_ _) | ((with_reducible refine Below.alloc ?_ ?_ _); rotate_left; (focus (first | omega | (simp; omega) | simp))) | ((with_reducible refine Below.setCell ?_ ?_ _); rotate_left; (focus (first | omega | (simp; omega) | simp))) | (refine Below.trans ?_ (Below.mono (by assumption) (by first | omega | (simp; omega) | simp)))))⟩
    · have e : Hid (leastOf xs = (leastV xs, 0)) := by unfold Hid leastOf; simp [hr, h2]
      have h2' : 2 ≤ xs.length := by omega
      have h2d : decide ((xs.length : Int) < 2) = false := by simp; omega
      obtain ⟨rv, rl, -⟩ := rowsB_all hr
      have RV := hide rv
      clear rv h2
      obtain ⟨b, off, rfl, hbl, hc0⟩ := HX.out 0 (by omega)
      clear hc0
      go_enter Try.func42, Try.ntmps42
      go_wp2_with fail
      refine (specl23Ok _ c xs _ HX.out hn HS.out).mono ?_
      rintro e' w1 ⟨rfl, hb1⟩
      have H1 := hide (HX.out.below hb1)
      have get : ∀ k (hk : k < xs.length), b < w1.heap.size ∧ ∀ j v, (encPlace xs[k])[j]? = some v → w1.cell? ⟨b, off + k * 5 + j, none⟩ = some v := fun k hk => by
        obtain ⟨b', off', q1, q2, q3⟩ := H1.out k hk
        injection q1 with q1
        injection q1 with q4 q5
        subst q4; subst q5
        exact ⟨q2, q3⟩
      have GET := hide get
      clear get
      have HB1 := hide hb1
      have hbw : b < w1.heap.size := (GET.out 0 (by omega)).1
      clear hb1
      have clear2 : ∀ (W : World) (hb : Below w1.heap.size w1 W) (i j : Nat) (hi : i < xs.length) (hj : j < xs.length), Calls Try.prog 94 #[.pointer (some ⟨b, off + i * 5, none⟩), .pointer (some ⟨b, off + j * 5, none⟩)] W fun e w' => e = .returned (.int .i64 (clP xs[i] xs[j])) ∧ ∃ n, W.drewN n = w' := fun W hb i j hi hj =>
        specl23Clear b (off + i * 5) b (off + j * 5) xs[i].nm xs[j].nm _ _ _ _ _ _ _ _ W (RV.out xs[i] (List.getElem_mem hi)) (RV.out xs[j] (List.getElem_mem hj))
          ((hb.cell (p := ⟨b, _, none⟩) hbw).trans ((GET.out i hi).2 1 _ rfl)) ((hb.cell (p := ⟨b, _, none⟩) hbw).trans ((GET.out i hi).2 2 _ rfl)) ((hb.cell (p := ⟨b, _, none⟩) hbw).trans ((GET.out i hi).2 3 _ rfl)) ((hb.cell (p := ⟨b, _, none⟩) hbw).trans ((GET.out i hi).2 4 _ rfl))
          ((hb.cell (p := ⟨b, _, none⟩) hbw).trans ((GET.out j hj).2 1 _ rfl)) ((hb.cell (p := ⟨b, _, none⟩) hbw).trans ((GET.out j hj).2 2 _ rfl)) ((hb.cell (p := ⟨b, _, none⟩) hbw).trans ((GET.out j hj).2 3 _ rfl)) ((hb.cell (p := ⟨b, _, none⟩) hbw).trans ((GET.out j hj).2 4 _ rfl))
      have CL := hide clear2
      clear clear2
      have bd : ∀ (i j : Nat) (hi : i < xs.length) (hj : j < xs.length), -10000 ≤ clP xs[i] xs[j] ∧ clP xs[i] xs[j] ≤ 40000 := fun i j hi hj => clr_bd (RV.out xs[i] (List.getElem_mem hi)) (RV.out xs[j] (List.getElem_mem hj))
      have BD := hide bd
      clear bd
      have L0 : Hid (LeastSo xs (clP xs[0] xs[1]) fun _ _ => False) := hide ⟨⟨0, 1, by omega, by omega, rfl⟩, fun _ _ _ _ h => h.elim⟩
      go_wp2_with fail
      have l1 : (1 : Int) < (xs.length : Int) := by omega
      have l0 : (0 : Int) < (xs.length : Int) := by omega
      have M0 := BD.out 0 1 (by omega) (by omega)
      have c01 := fun W hb => CL.out W hb 0 1 (by omega) (by omega)
      simp only [Nat.zero_mul, Nat.add_zero, Nat.one_mul] at c01
      have C01 := hide c01
      clear c01
      refine wp_region_kept (by kernel_rfl) (by kernel_rfl) ?_
      intro gc gf gz
      repeat (go_big_quiet_step ((go_at_call 94; exact Calls.kept_drew (C01.out _ (Kept.h _)))))
      refine wpQuiet_nil ?_
      intro w2 hw'
      obtain ⟨⟨_, hb2⟩, rfl⟩ := hw'
      clear gc gf gz
      try dsimp only
      have fs2 := hb2.size
      try simp at fs2 hb2
      have HB2 := hide hb2
      clear hb2 l1 l0
      go_wp2_with fail
      go_loopw [5, 4] (fun v t wr => ∃ (i : Nat) (m : Int), v = .int .i64 i ∧ t = .int .i64 m ∧ i ≤ xs.length ∧ Hid (LeastSo xs m fun i' _ => i' < i) ∧ -10000 ≤ m ∧ m ≤ 40000 ∧ Below w1.heap.size w1 wr) (fun v _ _ => xs.length - (intOf v).toNat)
      case atStart => exact ⟨0, _, rfl, rfl, by omega, hide (L0.out.imp fun i j _ _ a => by omega), M0.1, M0.2, HB2.out⟩
      case round =>
        obtain ⟨i, m, rfl, rfl, hi, hL, m0, m1, hb⟩ := hrel
        obtain ⟨wo, rfl⟩ : ∃ wo : World, wo = wr := ⟨_, rfl⟩
        by_cases hlt : i < xs.length
        · have hil : (i : Int) < (xs.length : Int) := by omega
          go_wp2_with fail
          go_loopw [6, 4] (fun v t wi => ∃ (k : Nat) (m : Int), v = .int .i64 k ∧ t = .int .i64 m ∧ i < k ∧ k ≤ xs.length ∧ Hid (LeastSo xs m fun i' j' => i' < i ∨ (i' = i ∧ j' < k)) ∧ -10000 ≤ m ∧ m ≤ 40000 ∧ Below w1.heap.size w1 wi) (fun v _ _ => xs.length - (intOf v).toNat)
          case atStart => exact ⟨i + 1, m, by go_num, rfl, by omega, by omega, hide (hL.out.imp fun i j _ _ a => by omega), m0, m1, hb⟩
          case round =>
            obtain ⟨k, m, rfl, rfl, hik, hk, hL, m0, m1, hb⟩ := hrel
            by_cases hkl : k < xs.length
            · have hkl2 : (k : Int) < (xs.length : Int) := by omega
              have C := hide fun W hb => CL.out W hb i k hlt hkl
              have M4 := BD.out i k hlt hkl
              have hL2 := fun (m' : Int) (hm : (clP xs[i] xs[k] ≤ m ∧ m' = clP xs[i] xs[k]) ∨ (m ≤ clP xs[i] xs[k] ∧ m' = m)) => hide ((hL.out.step hik hkl (c := clP xs[i] xs[k]) rfl (m' := m') hm).imp (S' := fun i' j' => i' < i ∨ (i' = i ∧ j' < k + 1)) fun i' j' _ _ a => by omega)
              have HL2 := hide hL2
              clear hL2
              generalize clP xs[i] xs[k] = cc at *
              have HB := hide hb
              go_wp2_with fail
              refine wp_region_kept (by kernel_rfl) (by kernel_rfl) ?_
              intro gc gf gz
              repeat (go_big_quiet_step ((first | (go_at_call 94; exact Calls.kept_drew (C.out _ (HB.out.trans ((Kept.h _).mono HB.out.size)))) | (go_at_call 95; exact Calls.kept_same (specl00Min _ _ _)))))
              refine wpQuiet_nil ?_
              intro w5 hw'
              obtain ⟨⟨_, hb5⟩, rfl⟩ := hw'
              clear gc gf gz
              try dsimp only
              have fs5 := hb5.size
              try simp at fs5 hb5
              have hmn : (cc ≤ m ∧ mnI m cc = cc) ∨ (m ≤ cc ∧ mnI m cc = m) := by unfold mnI; split <;> omega
              have hmb : -10000 ≤ mnI m cc ∧ mnI m cc ≤ 40000 := by omega
              have HMN := hide hmn
              clear hmn
              go_wp2_with fail
              go_roundw
              case rel => exact ⟨k + 1, _, by go_num, rfl, by omega, by omega, HL2.out _ HMN.out, hmb.1, hmb.2, HB.out.trans (hb5.mono HB.out.size)⟩
              case measure => simp [intOf]; omega
            · have hL2 := hide (hL.out.imp (S' := fun i' _ => i' < i + 1) fun i' j' _ _ a => by omega)
              go_wp2_with fail
              go_roundw
              case rel => exact ⟨i + 1, m, by go_num, rfl, by omega, hL2, m0, m1, hb⟩
              case measure => simp [intOf]; omega
        · have e2 : Hid (leastOf xs = (m, 0)) := hide (by rw [e.out, leastV_eq (hL.out.imp fun i j _ _ _ => by omega)])
          go_wp2_with fail
          go_ret2
          exact ⟨ret_two e2.out, HB1.out.trans (hb.mono HB1.out.size)⟩
set_option maxRecDepth 100000 in
set_option maxHeartbeats 2000000 in
theorem lawLeastClearance (A : Option Addr) (c : Nat) (xs : List PlaceR) (w : World) (hx : SlAt encPlace 5 w A xs) (hl : xs.length ≤ 9223372036854775807) (hxs : ∀ x ∈ xs, x.nm.size ≤ maxLen) :
    Calls Try.prog 10 #[.slice A xs.length c] w fun e w' => e = .returned (.bool true) ∧ Below w.heap.size w w' := by
  have hbW : Below w.heap.size w w := (by repeat (first | with_reducible exact Below.refl _ _ | with_reducible assumption | (with_reducible refine Below.drew ?_) | (with_reducible refine below_drewN ?_ _) | ((with_reducible refine Below.alloc ?_ ?_ _); rotate_left; (focus (first | omega | (simp; omega) | simp))) | ((with_reducible refine Below.setCell ?_ ?_ _); rotate_left; (focus (first | omega | (simp; omega) | simp))) | (refine Below.trans ?_ (Below.mono (by assumption) (by first | omega | (simp; omega) | simp)))))
  have HBW := hide hbW
  have HX := hide (hx.below hbW)
  have HS := hide hxs
  clear hxs
  clear hbW hx
  go_enter Try.func10, Try.ntmps10
  go_wp2_with fail
  refine (lawsszPlaceS_any A c xs _ _ HX.out hl HS.out (by omega) (by omega)).mono ?_
  rintro e w1 ⟨r2, rfl, ra2, rb2, hr2, hb1⟩
  have z1 := hb1.size
  have B1 : Hid (Below w.heap.size w w1) := hide hb1
  clear hb1
  by_cases hq2 : 0 ≤ r2
  · have _hq := hq2
    have hn : xs.length ≤ 1048576 := by have := hr2 hq2; omega
    clear hr2
    go_wp2_with fail
    refine (lawstoPlaceS_o A c xs _ (HX.out.below B1.out) hn).mono ?_
    rintro e w2 ⟨bY, rfl, hOY, hb2⟩
    have z2 : w.heap.size ≤ w2.heap.size := Nat.le_trans z1 hb2.size
    have y2 : w1.heap.size ≤ w2.heap.size := hb2.size
    have B2 : Hid (Below w.heap.size w w2) := hide (B1.out.trans (hb2.mono z1))
    clear B1 hb2
    have Y_2 := hide hOY
    have Y_lt := hide (fun k hk => ((hOY).lt k hk).2)
    clear hOY
    go_wp2_with fail
    refine (specLeastClearance _ _ xs _ ((Y_2.out).at_ (fun _ => rfl)) hn HS.out).mono ?_
    rintro e w3 ⟨rfl, hb3⟩
    have z3 : w.heap.size ≤ w3.heap.size := Nat.le_trans z2 hb3.size
    have y3 : w2.heap.size ≤ w3.heap.size := hb3.size
    have B3 : Hid (Below w.heap.size w w3) := hide (B2.out.trans (hb3.mono z2))
    have Y_3 := hide (Y_2.out.below hb3)
    clear Y_2 B2 hb3
    go_wp2_with fail
    refine (lawstoPlaceS_o A c xs _ (HX.out.below B3.out) hn).mono ?_
    rintro e w4 ⟨bX, rfl, hOX, hb4⟩
    have z4 : w.heap.size ≤ w4.heap.size := Nat.le_trans z3 hb4.size
    have y4 : w3.heap.size ≤ w4.heap.size := hb4.size
    have B4 : Hid (Below w.heap.size w w4) := hide (B3.out.trans (hb4.mono z3))
    have Y_4 := hide (Y_3.out.below hb4)
    clear Y_3 B3 hb4
    have X_4 := hide hOX
    have X_lt := hide (fun k hk => ((hOX).lt k hk).2)
    clear hOX
    go_wp2_with fail
    refine (implLeastClearance _ _ xs _ ((X_4.out).at_ (fun _ => rfl)) hn (Nat.le_refl _) HS.out).mono ?_
    rintro e w5 ⟨rfl, hb5⟩
    have z5 : w.heap.size ≤ w5.heap.size := Nat.le_trans z4 hb5.size
    have y5 : w4.heap.size ≤ w5.heap.size := hb5.size
    have B5 : Hid (Below w.heap.size w w5) := hide (B4.out.trans (hb5.mono z4))
    have Y_5 := hide (Y_4.out.below hb5)
    have X_5 := hide (X_4.out.below hb5)
    clear Y_4 X_4 B4 hb5
    go_wp2_with fail
    refine (lawstoPlaceS_o A c xs _ (HX.out.below B5.out) hn).mono ?_
    rintro e w6 ⟨bXe, rfl, hOXe, hb6⟩
    have z6 : w.heap.size ≤ w6.heap.size := Nat.le_trans z5 hb6.size
    have y6 : w5.heap.size ≤ w6.heap.size := hb6.size
    have B6 : Hid (Below w.heap.size w w6) := hide (B5.out.trans (hb6.mono z5))
    have Y_6 := hide (Y_5.out.below hb6)
    have X_6 := hide (X_5.out.below hb6)
    clear Y_5 X_5 B5 hb6
    have Xe_6 := hide hOXe
    have Xe_lt := hide (fun k hk => ((hOXe).lt k hk).2)
    clear hOXe
    go_wp2_with fail
    refine (lawseqPlaceS_same _ _ _ _ xs _ ((X_6.out).at_ (fun _ => rfl)) ((Xe_6.out).at_ (fun _ => rfl)) hn).mono ?_
    rintro e w7 ⟨rfl, hb7⟩
    have z7 : w.heap.size ≤ w7.heap.size := Nat.le_trans z6 hb7.size
    have y7 : w6.heap.size ≤ w7.heap.size := hb7.size
    have B7 : Hid (Below w.heap.size w w7) := hide (B6.out.trans (hb7.mono z6))
    have Y_7 := hide (Y_6.out.below hb7)
    have X_7 := hide (X_6.out.below hb7)
    have Xe_7 := hide (Xe_6.out.below hb7)
    clear Y_6 X_6 Xe_6 B6 hb7
    go_wp2_with fail
    go_ret
    exact ⟨rfl, Below.trans HBW.out (B7.out.mono (by simp))⟩
  · go_wp2_with fail
    go_ret
    exact ⟨rfl, Below.trans HBW.out (B1.out.mono (by simp))⟩
end Go.Proofs.Ytdimapcecdffnaa
