/- The amplitudes of all swings, their sum; TotalSway and IsPermitted on both sides. -/
import Derived.Test.YtjklhacffdhgaaaAmp
import Derived.Test.YtjklhacffdhgaaaInts
import Derived.Test.YtjklhacffdhgaaaRows2
namespace Go.Proofs.Ytjklhacffdhgaaa
open Go.RowKit

theorem rowsB_true {α : Type} {v : α → Bool} {nm : α → ByteArray} {N : Nat} {xs : List α} (h : rowsB v nm N xs = true) : (∀ x ∈ xs, v x = true) ∧ xs.length ≤ N ∧ ∀ k, ¬ badAt v nm xs k := by
  unfold rowsB at h
  obtain ⟨h1, h2⟩ := @of_decide_eq_true _ (Classical.propDecidable _) h
  refine ⟨fun x hx => ?_, h2, h1⟩
  obtain ⟨k, hk, rfl⟩ := List.getElem_of_mem hx
  cases e : v xs[k]
  · exact absurd ⟨hk, .inl e⟩ (h1 k)
  · rfl
/-- The sum of numbers. -/
def sumI : List Int → Int
  | [] => 0
  | x :: xs => x + sumI xs
theorem sumI_append (a b : List Int) : sumI (a ++ b) = sumI a + sumI b := by
  induction a with
  | nil => simp [sumI]
  | cons x a ih => simp only [List.cons_append, sumI, ih]; omega
theorem sumI_take {l : List Int} {k : Nat} (h : k < l.length) : sumI (l.take (k + 1)) = sumI (l.take k) + l[k] := by
  rw [List.take_succ_eq_append_getElem h, sumI_append]; simp [sumI]
theorem sumI_bd {l : List Int} {M : Int} (h : ∀ x ∈ l, 0 ≤ x ∧ x ≤ M) : 0 ≤ sumI l ∧ sumI l ≤ M * l.length := by
  induction l with
  | nil => simp [sumI]
  | cons x l ih =>
    have a := h x (by simp)
    have b := ih fun y hy => h y (by simp [hy])
    have e : M * ((x :: l).length : Int) = M * l.length + M := by rw [List.length_cons, Int.natCast_add, Int.mul_add]; simp
    rw [e]
    simp only [sumI]
    omega
theorem sumI_take_bd {l : List Int} {M : Int} (k : Nat) (h : ∀ x ∈ l, 0 ≤ x ∧ x ≤ M) (hl : l.length ≤ 1000) (hM : M ≤ 1000000000000) : 0 ≤ sumI (l.take k) ∧ sumI (l.take k) ≤ 1000000000000000 := by
  have a := sumI_bd (l := l.take k) (M := M) fun x hx => h x (List.mem_of_mem_take hx)
  have b : ((l.take k).length : Int) ≤ 1000 := by rw [List.length_take]; omega
  have c : M * ((l.take k).length : Int) ≤ 1000000000000 * 1000 := Int.mul_le_mul hM b (by omega) (by omega)
  omega
theorem implsumOf (A : Option Addr) (c : Nat) (l : List Int) (w : World) (h : SlAt encI 1 w A l) (hv : ∀ x ∈ l, 0 ≤ x ∧ x ≤ 1000000000000) (hl : l.length ≤ 1000) :
    Calls Try.prog 116 #[.slice A l.length c] w fun e w' => e = .returned (.int .i64 (sumI l)) ∧ w = w' := by
  have HX := hide h
  have HV := hide hv
  clear h hv
  go_enter Try.func116, Try.ntmps116
  go_wp2_with fail
  go_loop [8, 5, 3] (fun v _ t => ∃ (k : Nat) (s : Int), v = .int .i64 k ∧ t = .int .i64 s ∧ k ≤ l.length ∧ Hid (s = sumI (l.take k))) (fun v _ _ => l.length - (intOf v).toNat)
  case atStart => exact ⟨0, _, rfl, rfl, by omega, by simp [Hid, sumI]⟩
  case round =>
    obtain ⟨k, s, rfl, rfl, hk, hs⟩ := hrel
    have b1 := sumI_take_bd k HV.out hl (by omega)
    have b2 := sumI_take_bd (k + 1) HV.out hl (by omega)
    rw [← hs.out] at b1
    by_cases hlt : k < l.length
    · have hs2 := sumI_take hlt
      rw [← hs.out] at hs2
      rw [hs2] at b2
      have HS2 := hide hs2
      obtain ⟨b, off, rfl, hbl, hc⟩ := HX.out k hlt
      have hc0 := hc 0 _ rfl
      simp only [Nat.add_zero, Nat.mul_one] at hc0
      clear hc hs2
      generalize hx : l[k] = x at *
      clear hx
      go_wp2_with fail
      go_round
      case rel => exact ⟨k + 1, s + x, by go_num, rfl, by omega, HS2.out.symm⟩
      case measure => simp [intOf]; omega
    · obtain rfl : k = l.length := by omega
      have e : Hid (sumI l = s) := hide (by rw [hs.out, List.take_length])
      clear b2
      go_wp2_with fail
      go_ret
      exact ⟨ret_int e.out.symm, rfl⟩
/-- The amplitudes of all swings. -/
def amps (sw dp sf : Int) (xs : List SwingR) : List Int := xs.map fun x => amp sw dp sf x.rate x.force
theorem amps_take {sw dp sf : Int} {xs : List SwingR} {k : Nat} (h : k < xs.length) : amps sw dp sf (xs.take (k + 1)) = amps sw dp sf (xs.take k) ++ [amp sw dp sf xs[k].rate xs[k].force] := by
  unfold amps; rw [List.take_succ_eq_append_getElem h, List.map_append]; rfl
theorem amps_len (sw dp sf : Int) (xs : List SwingR) : (amps sw dp sf xs).length = xs.length := by simp [amps]
/-- A slice of numbers of the call's own. -/
def IntsRes (ys : List Int) (w : World) (e : Ending) (w' : World) : Prop := ∃ (A : Option Addr) (c : Nat), e = .returned (.slice A ys.length c) ∧ OwnI w' w.heap.size (.slice A ys.length c) ys ∧ Below w.heap.size w w'
theorem amps_val {sw dp sf : Int} {xs : List SwingR} (h1 : 100 ≤ sw) (h2 : sw ≤ 10000) (h3 : 5 ≤ dp) (h4 : dp ≤ 500) (s1 : 1 ≤ sf) (hv : ∀ x ∈ xs, vSwingR x = true) : ∀ y ∈ amps sw dp sf xs, 0 ≤ y ∧ y ≤ 1000000000000 := by
  intro y hy
  unfold amps at hy
  rw [List.mem_map] at hy
  obtain ⟨x, hx, rfl⟩ := hy
  obtain ⟨_, ⟨a, b⟩, c, d⟩ := vSwing_true _ _ _ (hv x hx)
  obtain ⟨-, -, -, -, e1, e2⟩ := amp_bounds h1 h2 h3 h4 s1 a b c d
  exact ⟨e1, by omega⟩
set_option maxRecDepth 100000 in
theorem implamplitudes (nm : ByteArray) (sw dp sf lim : Int) (A : Option Addr) (c : Nat) (xs : List SwingR) (w : World) (h : SlAt encSwing 3 w A xs) (hv : ∀ x ∈ xs, vSwingR x = true) (hn : xs.length ≤ 16) (h1 : 100 ≤ sw) (h2 : sw ≤ 10000) (h3 : 5 ≤ dp) (h4 : dp ≤ 500) (s1 : 1 ≤ sf) (s2 : sf ≤ 1000000) :
    Calls Try.prog 103 #[.agg #[.string nm, .int .i64 sw, .int .i64 dp, .int .i64 sf, .int .i64 lim], .slice A xs.length c] w (IntsRes (amps sw dp sf xs) w) := by
  have HX := hide (h.below ((Below.refl _ _).alloc (Nat.le_refl _) (.cells #[.string nm, .int .i64 sw, .int .i64 dp, .int .i64 sf, .int .i64 lim] 56)))
  have HV := hide hv
  clear h hv
  go_enter Try.func103, Try.ntmps103
  go_wp2_with fail
  go_loopw [10, 7, 5] (fun v _ t wr => ∃ (k : Nat) (A' : Option Addr) (c' : Nat) (ys : List Int), v = .int .i64 k ∧ t = .slice A' ys.length c' ∧ k ≤ xs.length ∧ Hid (ys = amps sw dp sf (xs.take k)) ∧ ys.length ≤ k ∧
      Hid (OwnI wr (w.heap.size + 1) (.slice A' ys.length c') ys) ∧ Below (w.heap.size + 1) (w.alloc (.cells #[.string nm, .int .i64 sw, .int .i64 dp, .int .i64 sf, .int .i64 lim] 56)) wr) (fun v _ _ _ => xs.length - (intOf v).toNat)
  case atStart => exact ⟨0, none, 0, [], rfl, rfl, by omega, rfl, by simp, hide Own.nil, Below.refl _ _⟩
  case round =>
    obtain ⟨k, A', c', ys, rfl, rfl, hk, hy, hyl, HO, hb⟩ := hrel
    have q0_0 := hb.cell (p := ⟨w.heap.size, 0, none⟩) (by simp)
    have q0_1 := hb.cell (p := ⟨w.heap.size, 1, none⟩) (by simp)
    have q0_2 := hb.cell (p := ⟨w.heap.size, 2, none⟩) (by simp)
    have q0_3 := hb.cell (p := ⟨w.heap.size, 3, none⟩) (by simp)
    have q0_4 := hb.cell (p := ⟨w.heap.size, 4, none⟩) (by simp)
    simp at q0_0 q0_1 q0_2 q0_3 q0_4
    have hz := hb.size
    simp at hz
    have hz_0 : w.heap.size < wr.heap.size := by omega
    have HB := hide hb
    by_cases hlt : k < xs.length
    · obtain ⟨b, off, rfl, hbl, hc⟩ := HX.out.below (by simpa using hb) k hlt
      have hc0 := hc 0 _ rfl
      have hc1 := hc 1 _ rfl
      have hc2 := hc 2 _ rfl
      simp only [Nat.add_zero] at hc0
      have hvx := HV.out xs[k] (List.getElem_mem hlt)
      have ha := hide (amps_take (sw := sw) (dp := dp) (sf := sf) hlt)
      clear hc hb
      generalize hx : xs[k] = x at *
      clear hx
      obtain ⟨x0, x1, x2⟩ := x
      simp only at hc0 hc1 hc2 ha
      obtain ⟨_, ⟨v1, v2⟩, v3, v4⟩ := vSwing_true _ _ _ hvx
      have HVX := hide hvx
      clear hvx
      go_wp2_with fail
      refine (implamplitude nm x0 sw dp sf lim x1 x2 _ h1 h2 h3 h4 s1 s2 v1 v2 v3 v4).mono ?_
      rintro e w1 ⟨rfl, hb1⟩
      have hz1 := hb1.size
      simp at hz1
      have hbr : Below wr.heap.size wr w1 := ((Below.refl _ _).alloc (Nat.le_refl _) _).trans (hb1.mono (by simp))
      have ho1 := HO.out.below hbr
      have HBR := hide hbr
      clear hb1 hbr
      go_wp2_with (at_builtin; refine wpList_appI rfl _ _ rfl (w.heap.size + 1) rfl ho1 rfl (by omega) ?_ ?_; (focus omega); intro A1 c1 w2 ho2 hb2 _hg2)
      go_roundw
      case rel => exact ⟨k + 1, A1, c1, ys ++ [amp sw dp sf x1 x2], by go_num, by simp, by omega, hide (ha.out.trans (by rw [← hy.out])).symm, by simp; omega, by simpa using hide ho2, (HB.out.trans (HBR.out.mono (by omega))).trans hb2⟩
      case measure => simp [intOf]; omega
    · obtain rfl : k = xs.length := by omega
      have e := hy.out
      rw [List.take_length] at e
      subst e
      go_wp2_with fail
      go_ret
      exact ⟨A', c', rfl, HO.out.mono (by omega), Below.trans ((Below.refl _ _).alloc (Nat.le_refl _) _) (hb.mono (by omega))⟩
set_option maxRecDepth 100000 in
theorem specl22All (bl : Nat) (sw dp sf : Int) (A : Option Addr) (c : Nat) (xs : List SwingR) (w : World) (h : SlAt encSwing 3 w A xs) (hv : ∀ x ∈ xs, vSwingR x = true) (hn : xs.length ≤ 16) (h1 : 100 ≤ sw) (h2 : sw ≤ 10000) (h3 : 5 ≤ dp) (h4 : dp ≤ 500) (s1 : 1 ≤ sf) (s2 : sf ≤ 1000000)
    (q1 : w.cell? ⟨bl, 1, none⟩ = some (.int .i64 sw)) (q2 : w.cell? ⟨bl, 2, none⟩ = some (.int .i64 dp)) (q3 : w.cell? ⟨bl, 3, none⟩ = some (.int .i64 sf)) :
    Calls Try.prog 97 #[.pointer (some ⟨bl, 0, none⟩), .slice A xs.length c] w (IntsRes (amps sw dp sf xs) w) := by
  have hbl : bl < w.heap.size := World.block_lt_of_cell? w _ q1
  have HX := hide h
  have HV := hide hv
  have HQ := hide (And.intro q1 (And.intro q2 q3))
  clear h hv q1 q2 q3
  go_enter Try.func97, Try.ntmps97
  go_wp2_with fail
  go_loopw [6, 5] (fun v t wr => ∃ (k : Nat) (A' : Option Addr) (c' : Nat) (ys : List Int), v = .int .i64 k ∧ t = .slice A' ys.length c' ∧ k ≤ xs.length ∧ Hid (ys = amps sw dp sf (xs.take k)) ∧ ys.length ≤ k ∧
      Hid (OwnI wr w.heap.size (.slice A' ys.length c') ys) ∧ Below w.heap.size w wr) (fun v _ _ => xs.length - (intOf v).toNat)
  case atStart => exact ⟨0, some ⟨w.heap.size, 0, none⟩, 0, [], rfl, by simp, by omega, rfl, by simp, hide (own_made _ rfl (by simp)), (by repeat (first | with_reducible exact Below.refl _ _ | with_reducible assumption | (with_reducible refine Below.drew ?_) | (with_reducible refine below_drewN ?_ _) | ((with_reducible refine Below.alloc ?_ ?_ _); rotate_left; (focus (first | omega | (simp; omega) | simp))) | ((with_reducible refine Below.setCell ?_ ?_ _); rotate_left; (focus (first | omega | (simp; omega) | simp))) | (refine Below.trans ?_ (Below.mono (by assumption) (by first | omega | (simp; omega) | simp)))))⟩
  case round =>
    obtain ⟨k, A', c', ys, rfl, rfl, hk, hy, hyl, HO, hb⟩ := hrel
    have hz := hb.size
    have HB := hide hb
    by_cases hlt : k < xs.length
    · obtain ⟨b, off, rfl, hblk, hc⟩ := HX.out.below hb k hlt
      have hc1 := hc 1 _ rfl
      have hc2 := hc 2 _ rfl
      have hvx := HV.out xs[k] (List.getElem_mem hlt)
      have ha := hide (amps_take (sw := sw) (dp := dp) (sf := sf) hlt)
      have q1 := (hb.cell (p := ⟨bl, 1, none⟩) hbl).trans HQ.out.1
      have q2 := (hb.cell (p := ⟨bl, 2, none⟩) hbl).trans HQ.out.2.1
      have q3 := (hb.cell (p := ⟨bl, 3, none⟩) hbl).trans HQ.out.2.2
      clear hc hb
      generalize hx : xs[k] = x at *
      clear hx
      obtain ⟨x0, x1, x2⟩ := x
      simp only at hc1 hc2 ha
      obtain ⟨_, ⟨v1, v2⟩, v3, v4⟩ := vSwing_true _ _ _ hvx
      clear hvx
      go_wp2_with fail
      refine (specl22Amplitude sw dp sf x1 x2 bl b (off + k * 3) wr (by omega) hblk h1 h2 h3 h4 s1 s2 v1 v2 v3 v4 q1 q2 q3 hc1 hc2).mono ?_
      rintro e w1 ⟨rfl, hb1⟩
      have hz1 := hb1.size
      have ho1 := HO.out.below hb1
      have HB1 := hide hb1
      clear hb1
      go_wp2_with (at_builtin; refine wpList_appI rfl _ _ rfl w.heap.size rfl ho1 rfl (by omega) ?_ ?_; (focus omega); intro A1 c1 w2 ho2 hb2 _hg2)
      go_roundw
      case rel => exact ⟨k + 1, A1, c1, ys ++ [amp sw dp sf x1 x2], by go_num, by simp, by omega, hide (ha.out.trans (by rw [← hy.out])).symm, by simp; omega, by simpa using hide ho2, (HB.out.trans (HB1.out.mono (by omega))).trans hb2⟩
      case measure => simp [intOf]; omega
    · obtain rfl : k = xs.length := by omega
      have e := hy.out
      rw [List.take_length] at e
      subst e
      go_wp2_with fail
      go_ret
      exact ⟨A', c', rfl, HO.out, hb⟩

@[irreducible] noncomputable def totR (nm : ByteArray) (sw dp sf lim : Int) (xs : List SwingR) : Int × Int := if vTower nm sw dp sf lim && rowsB vSwingR SwingR.nm 16 xs then (sumI (amps sw dp sf xs), 0) else (0, 1)
theorem totR_1 {nm : ByteArray} {sw dp sf lim : Int} {xs : List SwingR} (h : vTower nm sw dp sf lim = false) : totR nm sw dp sf lim xs = (0, 1) := by unfold totR; simp [h]
theorem totR_2 {nm : ByteArray} {sw dp sf lim : Int} {xs : List SwingR} (h : rowsB vSwingR SwingR.nm 16 xs = false) : totR nm sw dp sf lim xs = (0, 1) := by unfold totR; simp [h]
theorem totR_3 {nm : ByteArray} {sw dp sf lim : Int} {xs : List SwingR} (h : vTower nm sw dp sf lim = true) (h' : rowsB vSwingR SwingR.nm 16 xs = true) : totR nm sw dp sf lim xs = (sumI (amps sw dp sf xs), 0) := by unfold totR; simp [h, h']
set_option maxRecDepth 100000 in
theorem implTotalSway (nm : ByteArray) (sw dp sf lim : Int) (A : Option Addr) (c : Nat) (xs : List SwingR) (w : World) (hs : nm.size ≤ maxLen) (h : SlAt encSwing 3 w A xs) (hn : xs.length ≤ 1048576) (hx : ∀ x ∈ xs, x.nm.size ≤ maxLen) :
    Calls Try.prog 51 #[.agg #[.string nm, .int .i64 sw, .int .i64 dp, .int .i64 sf, .int .i64 lim], .slice A xs.length c] w fun e w' => e = .returned (two (totR nm sw dp sf lim xs)) ∧ Below w.heap.size w w' := by
  have HX := hide (h.below ((Below.refl _ _).alloc (Nat.le_refl _) (.cells #[.string nm, .int .i64 sw, .int .i64 dp, .int .i64 sf, .int .i64 lim] 56)))
  have HS := hide hx
  clear h hx
  cases hv : vTower nm sw dp sf lim
  · have e : Hid (totR nm sw dp sf lim xs = (0, 1)) := totR_1 hv
    go_enter Try.func51, Try.ntmps51
    go_wp2_with fail
    refine (implValidTower nm sw dp sf lim _ hs).mono ?_
    rintro e w1 ⟨rfl, hb1⟩
    obtain ⟨fcb1, ffb1, fzb1⟩ := bfacts hb1 (by first | exact Nat.le_refl _ | omega | (simp; omega) | simp); have fsb1 := hb1.size; try simp at fcb1 ffb1 fzb1 fsb1 hb1
    go_wp2_with fail
    go_ret2
    exact ⟨ret_two e.out, (by repeat (first | with_reducible exact Below.refl _ _ | with_reducible assumption | (with_reducible refine Below.drew ?_) | (with_reducible refine below_drewN ?_ _) | ((with_reducible refine Below.alloc ?_ ?_ _); rotate_left; (focus (first | omega | (simp; omega) | simp))) | ((with_reducible refine Below.setCell ?_ ?_ _); rotate_left; (focus (first | omega | (simp; omega) | simp))) | (refine Below.trans ?_ (Below.mono (by assumption) (by first | omega | (simp; omega) | simp)))))⟩
  · cases hr : rowsB vSwingR SwingR.nm 16 xs
    · have e : Hid (totR nm sw dp sf lim xs = (0, 1)) := totR_2 hr
      go_enter Try.func51, Try.ntmps51
      go_wp2_with fail
      refine (implValidTower nm sw dp sf lim _ hs).mono ?_
      rintro e w1 ⟨rfl, hb1⟩
      obtain ⟨fcb1, ffb1, fzb1⟩ := bfacts hb1 (by first | exact Nat.le_refl _ | omega | (simp; omega) | simp); have fsb1 := hb1.size; try simp at fcb1 ffb1 fzb1 fsb1 hb1
      have HX1 := hide (HX.out.below (by simpa using hb1))
      go_wp2_with fail
      refine (implValidSwings A c xs _ HX1.out hn HS.out).mono ?_
      rintro e w2 ⟨rfl, hb2⟩
      have hbn := Below.trans (by first | exact hb1 | exact below_drewN hb1 _) (Below.mono hb2 (by first | omega | (simp; omega) | simp))
      clear hb2 fcb1 ffb1 fzb1 fsb1
      clear hb1
      have hb2 := hbn
      clear hbn
      obtain ⟨fcb2, ffb2, fzb2⟩ := bfacts hb2 (by first | exact Nat.le_refl _ | omega | (simp; omega) | simp); have fsb2 := hb2.size; try simp at fcb2 ffb2 fzb2 fsb2 hb2
      go_wp2_with fail
      go_ret2
      exact ⟨ret_two e.out, (by repeat (first | with_reducible exact Below.refl _ _ | with_reducible assumption | (with_reducible refine Below.drew ?_) | (with_reducible refine below_drewN ?_ _) | ((with_reducible refine Below.alloc ?_ ?_ _); rotate_left; (focus (first | omega | (simp; omega) | simp))) | ((with_reducible refine Below.setCell ?_ ?_ _); rotate_left; (focus (first | omega | (simp; omega) | simp))) | (refine Below.trans ?_ (Below.mono (by assumption) (by first | omega | (simp; omega) | simp)))))⟩
    · have e : Hid (totR nm sw dp sf lim xs = (sumI (amps sw dp sf xs), 0)) := totR_3 hv hr
      obtain ⟨-, ⟨a1, a2⟩, ⟨a3, a4⟩, ⟨a5, a6⟩, -⟩ := vTower_true _ _ _ _ _ hv
      obtain ⟨r1, r2, -⟩ := rowsB_true hr
      have HR1 := hide r1
      clear r1
      go_enter Try.func51, Try.ntmps51
      go_wp2_with fail
      refine (implValidTower nm sw dp sf lim _ hs).mono ?_
      rintro e w1 ⟨rfl, hb1⟩
      obtain ⟨fcb1, ffb1, fzb1⟩ := bfacts hb1 (by first | exact Nat.le_refl _ | omega | (simp; omega) | simp); have fsb1 := hb1.size; try simp at fcb1 ffb1 fzb1 fsb1 hb1
      have HX1 := hide (HX.out.below (by simpa using hb1))
      go_wp2_with fail
      refine (implValidSwings A c xs _ HX1.out hn HS.out).mono ?_
      rintro e w2 ⟨rfl, hb2⟩
      have hbn := Below.trans (by first | exact hb1 | exact below_drewN hb1 _) (Below.mono hb2 (by first | omega | (simp; omega) | simp))
      clear hb2 fcb1 ffb1 fzb1 fsb1
      clear hb1
      have hb2 := hbn
      clear hbn
      obtain ⟨fcb2, ffb2, fzb2⟩ := bfacts hb2 (by first | exact Nat.le_refl _ | omega | (simp; omega) | simp); have fsb2 := hb2.size; try simp at fcb2 ffb2 fzb2 fsb2 hb2
      go_wp2_with fail
      refine (implamplitudes nm sw dp sf lim A c xs _ (HX.out.below (by simpa using hb2)) HR1.out r2 a1 a2 a3 a4 a5 a6).mono ?_
      rintro e w3 ⟨A3, c3, rfl, ho3, hb3⟩
      have HO3 := hide (Own.at_ (enc := encI) (sz := 1) (fun _ => rfl) ho3)
      have HV := hide (amps_val (sf := sf) a1 a2 a3 a4 a5 HR1.out)
      have hl := amps_len sw dp sf xs
      have hl' : (amps sw dp sf xs).length ≤ 1000 := by omega
      clear hl ho3
      go_wp2_with fail
      refine (implsumOf A3 c3 (amps sw dp sf xs) _ HO3.out HV.out hl').mono ?_
      rintro e w4 ⟨rfl, rfl⟩
      go_wp2_with fail
      go_ret2
      exact ⟨ret_two e.out, (by repeat (first | with_reducible exact Below.refl _ _ | with_reducible assumption | (with_reducible refine Below.drew ?_) | (with_reducible refine below_drewN ?_ _) | ((with_reducible refine Below.alloc ?_ ?_ _); rotate_left; (focus (first | omega | (simp; omega) | simp))) | ((with_reducible refine Below.setCell ?_ ?_ _); rotate_left; (focus (first | omega | (simp; omega) | simp))) | (refine Below.trans ?_ (Below.mono (by assumption) (by first | omega | (simp; omega) | simp)))))⟩
theorem implIsPermitted (nm : ByteArray) (sw dp sf lim : Int) (A : Option Addr) (c : Nat) (xs : List SwingR) (w : World) (hs : nm.size ≤ maxLen) (h : SlAt encSwing 3 w A xs) (hn : xs.length ≤ 1048576) (hx : ∀ x ∈ xs, x.nm.size ≤ maxLen) :
    Calls Try.prog 47 #[.agg #[.string nm, .int .i64 sw, .int .i64 dp, .int .i64 sf, .int .i64 lim], .slice A xs.length c] w fun e w' => e = .returned (.bool (decide ((totR nm sw dp sf lim xs).2 = 0 ∧ (totR nm sw dp sf lim xs).1 ≤ lim))) ∧ Below w.heap.size w w' := by
  have HX := hide (h.below ((Below.refl _ _).alloc (Nat.le_refl _) (.cells #[.string nm, .int .i64 sw, .int .i64 dp, .int .i64 sf, .int .i64 lim] 56)))
  have HS := hide hx
  clear h hx
  go_enter Try.func47, Try.ntmps47
  go_wp2_with fail
  refine (implTotalSway nm sw dp sf lim A c xs _ hs HX.out hn HS.out).mono ?_
  rintro e w1 ⟨rfl, hb1⟩
  obtain ⟨fcb1, ffb1, fzb1⟩ := bfacts hb1 (by first | exact Nat.le_refl _ | omega | (simp; omega) | simp); have fsb1 := hb1.size; try simp at fcb1 ffb1 fzb1 fsb1 hb1
  have q4 : w1.cell? ⟨w.heap.size, 4, none⟩ = some (.int .i64 lim) := by rw [fcb1 _ _ (by omega)]; simp
  generalize hp : totR nm sw dp sf lim xs = p at *
  obtain ⟨p1, p2⟩ := p
  have HP := hide hp
  clear hp
  by_cases h2 : p2 = 0
  · subst h2
    go_wp2_with fail
    go_ret
    exact ⟨ret_bool (by rw [HP.out]; simp), (by repeat (first | with_reducible exact Below.refl _ _ | with_reducible assumption | (with_reducible refine Below.drew ?_) | (with_reducible refine below_drewN ?_ _) | ((with_reducible refine Below.alloc ?_ ?_ _); rotate_left; (focus (first | omega | (simp; omega) | simp))) | ((with_reducible refine Below.setCell ?_ ?_ _); rotate_left; (focus (first | omega | (simp; omega) | simp))) | (refine Below.trans ?_ (Below.mono (by assumption) (by first | omega | (simp; omega) | simp)))))⟩
  · have t2 : (p2 == 0) = false := by simpa using h2
    have h3 := hide h2
    clear h2
    go_wp2_with fail
    go_ret
    exact ⟨ret_bool (by rw [HP.out]; simp [h3.out]), (by repeat (first | with_reducible exact Below.refl _ _ | with_reducible assumption | (with_reducible refine Below.drew ?_) | (with_reducible refine below_drewN ?_ _) | ((with_reducible refine Below.alloc ?_ ?_ _); rotate_left; (focus (first | omega | (simp; omega) | simp))) | ((with_reducible refine Below.setCell ?_ ?_ _); rotate_left; (focus (first | omega | (simp; omega) | simp))) | (refine Below.trans ?_ (Below.mono (by assumption) (by first | omega | (simp; omega) | simp)))))⟩
end Go.Proofs.Ytjklhacffdhgaaa
