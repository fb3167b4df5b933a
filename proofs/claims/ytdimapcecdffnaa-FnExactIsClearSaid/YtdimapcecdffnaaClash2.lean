/- ClashesOf and IsClear on both sides; their laws' walks. -/
import Derived.Test.YtdimapcecdffnaaClash
namespace Go.Proofs.Ytdimapcecdffnaa
open Go.RowKit

theorem two_small {ls : List (List Int)} (h : ∀ l ∈ ls, l.length = 2) : ∀ l ∈ ls, l.length ≤ 1048576 := fun l hl => by rw [h l hl]; omega
theorem two_tot {ls : List (List Int)} (h : ∀ l ∈ ls, l.length = 2) (hn : ls.length ≤ 1048576) : totL ls ≤ 100000000 := by rw [totL_two h]; omega
theorem heldAtLL {w : World} {B N c : Nat} {A : Option Addr} {vs : List Value} {ls : List (List Int)} {k : Int} (h : LL w B N (.slice A ls.length c) vs (marksLL k ls)) : SSAt w A (marksLL k ls) :=
  LL.at_ (c := c) (B := B) (N := N) (vs := vs) (by rw [marksLL_length]; exact h)
/-- A slice of slices of the call's own and a code. -/
def LLRes (P : List (List Int) → Int → Prop) (w : World) (e : Ending) (w' : World) : Prop :=
  ∃ (A : Option Addr) (c : Nat) (vs : List Value) (ls : List (List Int)) (code : Int), e = .returned (.tuple #[.slice A ls.length c, .int .i64 code]) ∧ P ls code ∧ ls.length ≤ 1048576 ∧ (∀ l ∈ ls, l.length = 2) ∧ LL w' w.heap.size w'.heap.size (.slice A ls.length c) vs ls ∧ Below w.heap.size w w'
theorem llRes_nil {P : List (List Int) → Int → Prop} {w w' : World} {code : Int} (h : P [] code) (hb : Below w.heap.size w w') : LLRes P w (.returned (.tuple #[.slice none 0 0, .int .i64 code])) w' :=
  ⟨none, 0, [], [], code, rfl, h, by simp, by simp, LL.nil _ _, hb⟩
theorem LL.here {w : World} {B N : Nat} {v : Value} {vs : List Value} {ls : List (List Int)} (h : LL w B N v vs ls) : LL w B w.heap.size v vs ls :=
  ⟨h.len, h.outer, fun b a => (h.outer.lt b a).2, fun i u l a b => ⟨(h.inner i u l a b).1, fun c d => ((h.inner i u l a b).1.lt c d).2⟩, h.apart⟩
@[irreducible] noncomputable def clOf (xs : List PlaceR) (g : Int) : List (List Int) × Int := if rowsB vPlaceR PlaceR.nm 24 xs then (if inB g 0 5000 then (allF xs g xs.length, 0) else ([], 2)) else ([], 1)
theorem allF_small {xs : List PlaceR} (g : Int) (h : xs.length ≤ 24) : (allF xs g xs.length).length ≤ 1000 := by
  have a := allF_len xs g xs.length
  have d : xs.length * xs.length ≤ 24 * 24 := Nat.mul_le_mul h h
  omega
theorem implClashesOf (A : Option Addr) (c : Nat) (xs : List PlaceR) (g : Int) (w : World) (h : SlAt encPlace 5 w A xs) (hn : xs.length ≤ 1048576) (hx : ∀ x ∈ xs, x.nm.size ≤ maxLen) :
    Calls Try.prog 53 #[.slice A xs.length c, .int .i64 g] w (LLRes (fun ls code => clOf xs g = (ls, code)) w) := by
  have HX := hide h
  have HS := hide hx
  clear h hx
  cases hr : rowsB vPlaceR PlaceR.nm 24 xs
  · have e : Hid (clOf xs g = ([], 1)) := by unfold Hid clOf; simp [hr]
    go_enter Try.func53, Try.ntmps53
    go_wp2_with fail
    refine (implValidPlaces A c xs _ HX.out hn HS.out).mono ?_
    rintro e w1 ⟨rfl, hb1⟩
    obtain ⟨fcb1, ffb1, fzb1⟩ := bfacts hb1 (by first | exact Nat.le_refl _ | omega | (simp; omega) | simp); have fsb1 := hb1.size; try simp at fcb1 ffb1 fzb1 fsb1 hb1
    go_wp2_with fail
    go_ret2
    exact llRes_nil e.out (by repeat (first | with_reducible exact Below.refl _ _ | with_reducible assumption | (with_reducible refine Below.drew ?_) | (with_reducible refine below_drewN ?_ _) | ((with_reducible refine Below.alloc ?_ ?_ _); rotate_left; (focus (first | omega | (simp; omega) | simp))) | ((with_reducible refine Below.setCell ?_ ?_ _); rotate_left; (focus (first | omega | (simp; omega) | simp))) | (refine Below.trans ?_ (Below.mono (by assumption) (by first | omega | (simp; omega) | simp)))))
  · cases hg : inB g 0 5000
    · have e : Hid (clOf xs g = ([], 2)) := by unfold Hid clOf; simp [hr, hg]
      go_enter Try.func53, Try.ntmps53
      go_wp2_with fail
      refine (implValidPlaces A c xs _ HX.out hn HS.out).mono ?_
      rintro e w1 ⟨rfl, hb1⟩
      obtain ⟨fcb1, ffb1, fzb1⟩ := bfacts hb1 (by first | exact Nat.le_refl _ | omega | (simp; omega) | simp); have fsb1 := hb1.size; try simp at fcb1 ffb1 fzb1 fsb1 hb1
      go_wp2_with fail
      refine (implisSpace_any _ _).mono ?_; rintro e2 w3 ⟨rfl, rfl⟩
      go_wp2_with fail
      go_ret2
      exact llRes_nil e.out (by repeat (first | with_reducible exact Below.refl _ _ | with_reducible assumption | (with_reducible refine Below.drew ?_) | (with_reducible refine below_drewN ?_ _) | ((with_reducible refine Below.alloc ?_ ?_ _); rotate_left; (focus (first | omega | (simp; omega) | simp))) | ((with_reducible refine Below.setCell ?_ ?_ _); rotate_left; (focus (first | omega | (simp; omega) | simp))) | (refine Below.trans ?_ (Below.mono (by assumption) (by first | omega | (simp; omega) | simp)))))
    · have e : Hid (clOf xs g = (allF xs g xs.length, 0)) := by unfold Hid clOf; simp [hr, hg]
      obtain ⟨rv, rl, -⟩ := rowsB_all hr
      have RV := hide rv
      clear rv
      go_enter Try.func53, Try.ntmps53
      go_wp2_with fail
      refine (implValidPlaces A c xs _ HX.out hn HS.out).mono ?_
      rintro e w1 ⟨rfl, hb1⟩
      obtain ⟨fcb1, ffb1, fzb1⟩ := bfacts hb1 (by first | exact Nat.le_refl _ | omega | (simp; omega) | simp); have fsb1 := hb1.size; try simp at fcb1 ffb1 fzb1 fsb1 hb1
      go_wp2_with fail
      refine (implisSpace_any _ _).mono ?_; rintro e2 w3 ⟨rfl, rfl⟩
      go_wp2_with fail
      refine (implclashes A c xs g _ (HX.out.below (by simpa using hb1)) rl RV.out).mono ?_
      rintro e3 w4 ⟨A4, c4, vs4, rfl, hL4, hb4⟩
      have hs := allF_small g rl
      have HT := hide (allF_two xs g xs.length)
      have HL := hide ((hL4.down fsb1).here)
      have hbE : Below w.heap.size w w4 := (by repeat (first | with_reducible exact Below.refl _ _ | with_reducible assumption | (with_reducible refine Below.drew ?_) | (with_reducible refine below_drewN ?_ _) | ((with_reducible refine Below.alloc ?_ ?_ _); rotate_left; (focus (first | omega | (simp; omega) | simp))) | ((with_reducible refine Below.setCell ?_ ?_ _); rotate_left; (focus (first | omega | (simp; omega) | simp))) | (refine Below.trans ?_ (Below.mono (by assumption) (by first | omega | (simp; omega) | simp)))))
      have HBE := hide hbE
      clear hL4 hbE hb1 hb4 fcb1 ffb1 fzb1
      go_wp2_with fail
      go_ret2
      exact ⟨A4, c4, vs4, _, 0, rfl, e.out, by omega, HT.out, HL.out, HBE.out⟩
theorem specClashesOf (A : Option Addr) (c : Nat) (xs : List PlaceR) (g : Int) (w : World) (h : SlAt encPlace 5 w A xs) (hn : xs.length ≤ 1048576) (hx : ∀ x ∈ xs, x.nm.size ≤ maxLen) :
    Calls Try.prog 52 #[.slice A xs.length c, .int .i64 g] w (LLRes (fun ls code => clOf xs g = (ls, code)) w) := by
  have HX := hide h
  have HS := hide hx
  clear h hx
  cases hr : rowsB vPlaceR PlaceR.nm 24 xs
  · have e : Hid (clOf xs g = ([], 1)) := by unfold Hid clOf; simp [hr]
    go_enter Try.func52, Try.ntmps52
    go_wp2_with fail
    refine (specl23Ok A c xs _ HX.out hn HS.out).mono ?_
    rintro e w1 ⟨rfl, hb1⟩
    obtain ⟨fcb1, ffb1, fzb1⟩ := bfacts hb1 (by first | exact Nat.le_refl _ | omega | (simp; omega) | simp); have fsb1 := hb1.size; try simp at fcb1 ffb1 fzb1 fsb1 hb1
    go_wp2_with fail
    go_ret2
    exact llRes_nil e.out (by repeat (first | with_reducible exact Below.refl _ _ | with_reducible assumption | (with_reducible refine Below.drew ?_) | (with_reducible refine below_drewN ?_ _) | ((with_reducible refine Below.alloc ?_ ?_ _); rotate_left; (focus (first | omega | (simp; omega) | simp))) | ((with_reducible refine Below.setCell ?_ ?_ _); rotate_left; (focus (first | omega | (simp; omega) | simp))) | (refine Below.trans ?_ (Below.mono (by assumption) (by first | omega | (simp; omega) | simp)))))
  · cases hg : inB g 0 5000
    · have e : Hid (clOf xs g = ([], 2)) := by unfold Hid clOf; simp [hr, hg]
      go_enter Try.func52, Try.ntmps52
      go_wp2_with fail
      refine (specl23Ok A c xs _ HX.out hn HS.out).mono ?_
      rintro e w1 ⟨rfl, hb1⟩
      obtain ⟨fcb1, ffb1, fzb1⟩ := bfacts hb1 (by first | exact Nat.le_refl _ | omega | (simp; omega) | simp); have fsb1 := hb1.size; try simp at fcb1 ffb1 fzb1 fsb1 hb1
      go_wp2_with fail
      refine (specl23Gap_any _ _).mono ?_; rintro e2 w3 ⟨rfl, rfl⟩
      go_wp2_with fail
      go_ret2
      exact llRes_nil e.out (by repeat (first | with_reducible exact Below.refl _ _ | with_reducible assumption | (with_reducible refine Below.drew ?_) | (with_reducible refine below_drewN ?_ _) | ((with_reducible refine Below.alloc ?_ ?_ _); rotate_left; (focus (first | omega | (simp; omega) | simp))) | ((with_reducible refine Below.setCell ?_ ?_ _); rotate_left; (focus (first | omega | (simp; omega) | simp))) | (refine Below.trans ?_ (Below.mono (by assumption) (by first | omega | (simp; omega) | simp)))))
    · have e : Hid (clOf xs g = (allF xs g xs.length, 0)) := by unfold Hid clOf; simp [hr, hg]
      obtain ⟨rv, rl, -⟩ := rowsB_all hr
      have RV := hide rv
      clear rv
      go_enter Try.func52, Try.ntmps52
      go_wp2_with fail
      refine (specl23Ok A c xs _ HX.out hn HS.out).mono ?_
      rintro e w1 ⟨rfl, hb1⟩
      obtain ⟨fcb1, ffb1, fzb1⟩ := bfacts hb1 (by first | exact Nat.le_refl _ | omega | (simp; omega) | simp); have fsb1 := hb1.size; try simp at fcb1 ffb1 fzb1 fsb1 hb1
      go_wp2_with fail
      refine (specl23Gap_any _ _).mono ?_; rintro e2 w3 ⟨rfl, rfl⟩
      go_wp2_with fail
      refine (specl23Clashes A c xs g _ (HX.out.below (by simpa using hb1)) rl RV.out).mono ?_
      rintro e3 w4 ⟨A4, c4, vs4, rfl, hL4, hb4⟩
      have hs := allF_small g rl
      have HT := hide (allF_two xs g xs.length)
      have HL := hide ((hL4.down fsb1).here)
      have hbE : Below w.heap.size w w4 := (by repeat (first | with_reducible exact Below.refl _ _ | with_reducible assumption | (with_reducible refine Below.drew ?_) | (with_reducible refine below_drewN ?_ _) | ((with_reducible refine Below.alloc ?_ ?_ _); rotate_left; (focus (first | omega | (simp; omega) | simp))) | ((with_reducible refine Below.setCell ?_ ?_ _); rotate_left; (focus (first | omega | (simp; omega) | simp))) | (refine Below.trans ?_ (Below.mono (by assumption) (by first | omega | (simp; omega) | simp)))))
      have HBE := hide hbE
      clear hL4 hbE hb1 hb4 fcb1 ffb1 fzb1
      go_wp2_with fail
      go_ret2
      exact ⟨A4, c4, vs4, _, 0, rfl, e.out, by omega, HT.out, HL.out, HBE.out⟩
set_option maxRecDepth 100000 in
set_option maxHeartbeats 2000000 in
theorem lawClashesOf (A : Option Addr) (c : Nat) (xs : List PlaceR) (g : Int) (w : World) (hx : SlAt encPlace 5 w A xs) (hl : xs.length ≤ 9223372036854775807) (hxs : ∀ x ∈ xs, x.nm.size ≤ maxLen) :
    Calls Try.prog 13 #[.slice A xs.length c, .int .i64 g] w fun e w' => e = .returned (.bool true) ∧ Below w.heap.size w w' := by
  have hbW : Below w.heap.size w w := (by repeat (first | with_reducible exact Below.refl _ _ | with_reducible assumption | (with_reducible refine Below.drew ?_) | (with_reducible refine below_drewN ?_ _) | ((with_reducible refine Below.alloc ?_ ?_ _); rotate_left; (focus (first | omega | (simp; omega) | simp))) | ((with_reducible refine Below.setCell ?_ ?_ _); rotate_left; (focus (first | omega | (simp; omega) | simp))) | (refine Below.trans ?_ (Below.mono (by assumption) (by first | omega | (simp; omega) | simp)))))
  have HBW := hide hbW
  have HX := hide (hx.below hbW)
  have HS := hide hxs
  clear hxs
  clear hbW hx
  go_enter Try.func13, Try.ntmps13
  go_wp2_with fail
  refine (lawsszPlaceS_any A c xs _ _ HX.out hl HS.out (by omega) (by omega)).mono ?_
  rintro e w1 ⟨r2, rfl, ra2, rb2, hr2, hb1⟩
  have z1 := hb1.size
  have B1 : Hid (Below w.heap.size w w1) := hide hb1
  clear hb1
  by_cases hq2 : 0 ≤ r2
  · have _hq := hq2
    have hn : xs.length ≤ 1048576 := by have := hr2 hq2; omega
    clear hr2
    go_wp2_with fail
    refine (lawstoPlaceS_o A c xs _ (HX.out.below B1.out) hn).mono ?_
    rintro e w2 ⟨bY, rfl, hOY, hb2⟩
    have z2 : w.heap.size ≤ w2.heap.size := Nat.le_trans z1 hb2.size
    have y2 : w1.heap.size ≤ w2.heap.size := hb2.size
    have B2 : Hid (Below w.heap.size w w2) := hide (B1.out.trans (hb2.mono z1))
    clear B1 hb2
    have Y_2 := hide hOY
    have Y_lt := hide (fun k hk => ((hOY).lt k hk).2)
    clear hOY
    go_wp2_with fail
    refine (specClashesOf _ _ xs g _ ((Y_2.out).at_ (fun _ => rfl)) hn HS.out).mono ?_
    rintro e w3 ⟨A0, c0, vs0, xs0, code0, rfl, hR0, hn0, ht0, hO0, hb3⟩
    have z3 : w.heap.size ≤ w3.heap.size := Nat.le_trans z2 hb3.size
    have y3 : w2.heap.size ≤ w3.heap.size := hb3.size
    have B3 : Hid (Below w.heap.size w w3) := hide (B2.out.trans (hb3.mono z2))
    have Y_3 := hide (Y_2.out.below hb3)
    clear Y_2 B2 hb3
    have S0_3 := hide hO0
    clear hO0
    go_wp2_with fail
    refine (lawstoPlaceS_o A c xs _ (HX.out.below B3.out) hn).mono ?_
    rintro e w4 ⟨bX, rfl, hOX, hb4⟩
    have z4 : w.heap.size ≤ w4.heap.size := Nat.le_trans z3 hb4.size
    have y4 : w3.heap.size ≤ w4.heap.size := hb4.size
    have B4 : Hid (Below w.heap.size w w4) := hide (B3.out.trans (hb4.mono z3))
    have Y_4 := hide (Y_3.out.below hb4)
    have S0_4 := hide (S0_3.out.below hb4)
    clear Y_3 S0_3 B3 hb4
    have X_4 := hide hOX
    have X_lt := hide (fun k hk => ((hOX).lt k hk).2)
    clear hOX
    go_wp2_with fail
    refine (implClashesOf _ _ xs g _ ((X_4.out).at_ (fun _ => rfl)) hn HS.out).mono ?_
    rintro e w5 ⟨A1, c1, vs1, xs1, code1, rfl, hR1, hn1, ht1, hO1, hb5⟩
    have z5 : w.heap.size ≤ w5.heap.size := Nat.le_trans z4 hb5.size
    have y5 : w4.heap.size ≤ w5.heap.size := hb5.size
    have B5 : Hid (Below w.heap.size w w5) := hide (B4.out.trans (hb5.mono z4))
    have Y_5 := hide (Y_4.out.below hb5)
    have S0_5 := hide (S0_4.out.below hb5)
    have X_5 := hide (X_4.out.below hb5)
    clear Y_4 S0_4 X_4 B4 hb5
    have G0_5 := hide hO1
    clear hO1
    obtain ⟨rfl, rfl⟩ := pair_det hR0 hR1
    clear hR1 hn1
    have hR0 := hide hR0
    go_wp2_with fail
    refine (lawseqInt64SS_same _ _ _ _ xs0 _ (LL.at_ G0_5.out) (LL.at_ S0_5.out) hn0 (two_small ht0)).mono ?_
    rintro e w6 ⟨rfl, hb6⟩
    have z6 : w.heap.size ≤ w6.heap.size := Nat.le_trans z5 hb6.size
    have y6 : w5.heap.size ≤ w6.heap.size := hb6.size
    have B6 : Hid (Below w.heap.size w w6) := hide (B5.out.trans (hb6.mono z5))
    have Y_6 := hide (Y_5.out.below hb6)
    have S0_6 := hide (S0_5.out.below hb6)
    have X_6 := hide (X_5.out.below hb6)
    have G0_6 := hide (G0_5.out.below hb6)
    clear Y_5 S0_5 X_5 G0_5 B5 hb6
    go_wp2_with fail
    refine (lawstoPlaceS_o A c xs _ (HX.out.below B6.out) hn).mono ?_
    rintro e w7 ⟨bXe, rfl, hOXe, hb7⟩
    have z7 : w.heap.size ≤ w7.heap.size := Nat.le_trans z6 hb7.size
    have y7 : w6.heap.size ≤ w7.heap.size := hb7.size
    have B7 : Hid (Below w.heap.size w w7) := hide (B6.out.trans (hb7.mono z6))
    have Y_7 := hide (Y_6.out.below hb7)
    have S0_7 := hide (S0_6.out.below hb7)
    have X_7 := hide (X_6.out.below hb7)
    have G0_7 := hide (G0_6.out.below hb7)
    clear Y_6 S0_6 X_6 G0_6 B6 hb7
    have Xe_7 := hide hOXe
    have Xe_lt := hide (fun k hk => ((hOXe).lt k hk).2)
    clear hOXe
    go_wp2_with fail
    refine (lawseqPlaceS_same _ _ _ _ xs _ ((X_7.out).at_ (fun _ => rfl)) ((Xe_7.out).at_ (fun _ => rfl)) hn).mono ?_
    rintro e w8 ⟨rfl, hb8⟩
    have z8 : w.heap.size ≤ w8.heap.size := Nat.le_trans z7 hb8.size
    have y8 : w7.heap.size ≤ w8.heap.size := hb8.size
    have B8 : Hid (Below w.heap.size w w8) := hide (B7.out.trans (hb8.mono z7))
    have Y_8 := hide (Y_7.out.below hb8)
    have S0_8 := hide (S0_7.out.below hb8)
    have X_8 := hide (X_7.out.below hb8)
    have G0_8 := hide (G0_7.out.below hb8)
    have Xe_8 := hide (Xe_7.out.below hb8)
    clear Y_7 S0_7 X_7 G0_7 Xe_7 B7 hb8
    clear Xe_8 Xe_lt
    go_wp2_with fail
    refine (lawsmarkPlaceS _ _ _ xs _ _ X_8.out hn (by omega) (by omega)).mono ?_
    rintro e w9 ⟨rfl, hO, hg⟩
    have hge := fun k hk => (X_8.out.lt k hk).1
    have y9 := hg.size
    have z9 : w.heap.size ≤ w9.heap.size := Nat.le_trans z8 y9
    have B9 : Hid (Below w.heap.size w w9) := hide (Below.grown B8.out hg z8 fun k hk => Nat.le_trans z3 (hge k hk))
    have Y_9 := hide (kept_older Y_8.out Y_lt.out hg hge (by omega))
    have S0_9 := hide (LL.out S0_8.out (by omega) (Below.grown (Below.refl _ _) hg (by omega) hge))
    have X_9 := hide hO
    have G0_9 := hide (LL.older G0_8.out hg X_lt.out (by omega))
    clear Y_8 S0_8 X_8 G0_8 B8 hO hg hge
    clear X_9 X_lt
    go_wp2_with fail
    refine (lawseqInt64SS_same _ _ _ _ xs0 _ (LL.at_ G0_9.out) (LL.at_ S0_9.out) hn0 (two_small ht0)).mono ?_
    rintro e w10 ⟨rfl, hb10⟩
    have z10 : w.heap.size ≤ w10.heap.size := Nat.le_trans z9 hb10.size
    have y10 : w9.heap.size ≤ w10.heap.size := hb10.size
    have B10 : Hid (Below w.heap.size w w10) := hide (B9.out.trans (hb10.mono z9))
    have Y_10 := hide (Y_9.out.below hb10)
    have S0_10 := hide (S0_9.out.below hb10)
    have G0_10 := hide (G0_9.out.below hb10)
    clear Y_9 S0_9 G0_9 B9 hb10
    go_wp2_with fail
    refine (lawsmarkInt64SS _ _ _ _ _ xs0 _ _ G0_10.out hn0 (two_tot ht0 hn0) (two_small ht0) (by omega) (by omega) (by omega)).mono ?_
    rintro e w11 ⟨rfl, hO, hb11⟩
    have y11 := hb11.size
    have z11 : w.heap.size ≤ w11.heap.size := Nat.le_trans z10 y11
    have B11 : Hid (Below w.heap.size w w11) := hide (B10.out.trans (hb11.mono z4))
    have Y_11 := hide (kept_out Y_10.out (fun k h => Nat.lt_of_lt_of_le (Y_lt.out k h) (by omega)) hb11)
    have S0_11 := hide (LL.out S0_10.out (by omega) hb11)
    have G0_11 := hide hO
    clear Y_10 S0_10 G0_10 B10 hO hb11
    go_wp2_with fail
    refine (lawsheldInt64SS _ _ xs0 _ _ (heldAtLL G0_11.out) hn0 (two_tot ht0 hn0) (two_small ht0) (by omega) (by omega)).mono ?_
    rintro e w12 ⟨rfl, hb12⟩
    have z12 : w.heap.size ≤ w12.heap.size := Nat.le_trans z11 hb12.size
    have y12 : w11.heap.size ≤ w12.heap.size := hb12.size
    have B12 : Hid (Below w.heap.size w w12) := hide (B11.out.trans (hb12.mono z11))
    have Y_12 := hide (Y_11.out.below hb12)
    have S0_12 := hide (S0_11.out.below hb12)
    have G0_12 := hide (G0_11.out.below hb12)
    clear Y_11 S0_11 G0_11 B11 hb12
    go_wp2_with fail
    refine (lawstoPlaceS_o A c xs _ (HX.out.below B12.out) hn).mono ?_
    rintro e w13 ⟨bYh, rfl, hOYh, hb13⟩
    have z13 : w.heap.size ≤ w13.heap.size := Nat.le_trans z12 hb13.size
    have y13 : w12.heap.size ≤ w13.heap.size := hb13.size
    have B13 : Hid (Below w.heap.size w w13) := hide (B12.out.trans (hb13.mono z12))
    have Y_13 := hide (Y_12.out.below hb13)
    have S0_13 := hide (S0_12.out.below hb13)
    have G0_13 := hide (G0_12.out.below hb13)
    clear Y_12 S0_12 G0_12 B12 hb13
    have Yh_13 := hide hOYh
    have Yh_lt := hide (fun k hk => ((hOYh).lt k hk).2)
    clear hOYh
    go_wp2_with fail
    refine (implClashesOf _ _ xs g _ ((Yh_13.out).at_ (fun _ => rfl)) hn HS.out).mono ?_
    rintro e w14 ⟨A2, c2, vs2, xs2, code2, rfl, hR2, hn2, ht2, hO2, hb14⟩
    have z14 : w.heap.size ≤ w14.heap.size := Nat.le_trans z13 hb14.size
    have y14 : w13.heap.size ≤ w14.heap.size := hb14.size
    have B14 : Hid (Below w.heap.size w w14) := hide (B13.out.trans (hb14.mono z13))
    have Y_14 := hide (Y_13.out.below hb14)
    have S0_14 := hide (S0_13.out.below hb14)
    have G0_14 := hide (G0_13.out.below hb14)
    have Yh_14 := hide (Yh_13.out.below hb14)
    clear Y_13 S0_13 G0_13 Yh_13 B13 hb14
    have H0_14 := hide hO2
    clear hO2
    obtain ⟨rfl, rfl⟩ := pair_det hR0.out hR2
    go_wp2_with fail
    refine (lawseqInt64SS_same _ _ _ _ xs0 _ (LL.at_ H0_14.out) (LL.at_ S0_14.out) hn0 (two_small ht0)).mono ?_
    rintro e w15 ⟨rfl, hb15⟩
    have z15 : w.heap.size ≤ w15.heap.size := Nat.le_trans z14 hb15.size
    have y15 : w14.heap.size ≤ w15.heap.size := hb15.size
    have B15 : Hid (Below w.heap.size w w15) := hide (B14.out.trans (hb15.mono z14))
    have Y_15 := hide (Y_14.out.below hb15)
    have S0_15 := hide (S0_14.out.below hb15)
    have G0_15 := hide (G0_14.out.below hb15)
    have Yh_15 := hide (Yh_14.out.below hb15)
    have H0_15 := hide (H0_14.out.below hb15)
    clear Y_14 S0_14 G0_14 Yh_14 H0_14 B14 hb15
    go_wp2_with fail
    refine (lawsheldInt64SS _ _ xs0 _ _ (heldAtLL G0_15.out) hn0 (two_tot ht0 hn0) (two_small ht0) (by omega) (by omega)).mono ?_
    rintro e w16 ⟨rfl, hb16⟩
    have z16 : w.heap.size ≤ w16.heap.size := Nat.le_trans z15 hb16.size
    have y16 : w15.heap.size ≤ w16.heap.size := hb16.size
    have B16 : Hid (Below w.heap.size w w16) := hide (B15.out.trans (hb16.mono z15))
    have Y_16 := hide (Y_15.out.below hb16)
    have S0_16 := hide (S0_15.out.below hb16)
    have G0_16 := hide (G0_15.out.below hb16)
    have Yh_16 := hide (Yh_15.out.below hb16)
    have H0_16 := hide (H0_15.out.below hb16)
    clear Y_15 S0_15 G0_15 Yh_15 H0_15 B15 hb16
    go_wp2_with fail
    go_ret
    exact ⟨rfl, Below.trans HBW.out (B16.out.mono (by simp))⟩
  · go_wp2_with fail
    go_ret
    exact ⟨rfl, Below.trans HBW.out (B1.out.mono (by simp))⟩
theorem beq_len (n : Nat) : ((n : Int) == 0) = decide (n = 0) := by by_cases h : n = 0 <;> simp [h]
/-- Whether all places are within a chamber and none are too near. -/
@[irreducible] noncomputable def clearB (a b c g : Int) (xs : List PlaceR) : Bool := vCh a b c && rowsB vPlaceR PlaceR.nm 24 xs && inB g 0 5000 && decide ((outsN a b c g 0 xs).length = 0) && decide ((allF xs g xs.length).length = 0)
set_option maxRecDepth 100000 in
theorem implIsClear (a b c : Int) (A : Option Addr) (cp : Nat) (xs : List PlaceR) (g : Int) (w : World) (h : SlAt encPlace 5 w A xs) (hn : xs.length ≤ 1048576) (hx : ∀ x ∈ xs, x.nm.size ≤ maxLen) :
    Calls Try.prog 51 #[.agg #[.int .i64 a, .int .i64 b, .int .i64 c], .slice A xs.length cp, .int .i64 g] w fun e w' => e = .returned (.bool (clearB a b c g xs)) ∧ Below w.heap.size w w' := by
  have hbW : Below w.heap.size w (w.alloc (.cells #[.int .i64 a, .int .i64 b, .int .i64 c] 70)) := (by repeat (first | with_reducible exact Below.refl _ _ | with_reducible assumption | (with_reducible refine Below.drew ?_) | (with_reducible refine below_drewN ?_ _) | ((with_reducible refine Below.alloc ?_ ?_ _); rotate_left; (focus (first | omega | (simp; omega) | simp))) | ((with_reducible refine Below.setCell ?_ ?_ _); rotate_left; (focus (first | omega | (simp; omega) | simp))) | (refine Below.trans ?_ (Below.mono (by assumption) (by first | omega | (simp; omega) | simp)))))
  have HX := hide (h.below hbW)
  have HBW := hide hbW
  have HS := hide hx
  clear h hx hbW
  by_cases hgood : vCh a b c = true ∧ rowsB vPlaceR PlaceR.nm 24 xs = true ∧ inB g 0 5000 = true
  · obtain ⟨h1, h2, h3⟩ := hgood
    have e : Hid (clearB a b c g xs = (decide ((outsN a b c g 0 xs).length = 0) && decide ((allF xs g xs.length).length = 0))) := by unfold Hid clearB; simp [h1, h2, h3]
    have eo := hide (outOf_4 h1 h2 h3)
    obtain ⟨rv, rl, -⟩ := rowsB_all h2
    have RV := hide rv
    clear rv h1 h2 h3
    go_enter Try.func51, Try.ntmps51
    go_wp2_with fail
    refine (implOutsideOf a b c A cp xs g _ HX.out hn HS.out).mono ?_
    rintro e1 w1 ⟨A1, c1, ys, code, rfl, hR, hy, hO, hb1⟩
    obtain ⟨rfl, rfl⟩ := pair_det eo.out hR
    have z1 := hb1.size
    have HX1 := hide (HX.out.below hb1)
    have HB1 := hide (HBW.out.trans (hb1.mono (by simp)))
    clear hb1 hO hR
    by_cases h0 : (outsN a b c g 0 xs).length = 0
    · have t0 : (((outsN a b c g 0 xs).length : Int) == 0) = true := by simp [h0]
      have H0 := hide h0
      clear h0
      go_wp2_with fail
      refine (implclashes A cp xs g _ HX1.out rl RV.out).mono ?_
      rintro e2 w2 ⟨A2, c2, vs2, rfl, -, hb2⟩
      have HB2 := hide (HB1.out.trans (hb2.mono HB1.out.size))
      clear hb2
      go_wp2_with fail
      go_ret
      exact ⟨ret_bool (by rw [e.out, H0.out, beq_len]; rfl), HB2.out⟩
    · have t0 : (((outsN a b c g 0 xs).length : Int) == 0) = false := by simp; intro q; simp [q] at h0
      have H0 := hide h0
      clear h0
      go_wp2_with fail
      go_ret
      exact ⟨ret_bool (by rw [e.out]; simp [H0.out]), HB1.out⟩
  · have e : Hid (clearB a b c g xs = false) := by
      unfold Hid clearB
      cases h1 : vCh a b c <;> cases h2 : rowsB vPlaceR PlaceR.nm 24 xs <;> cases h3 : inB g 0 5000 <;> simp_all
    have eo : Hid (∃ code : Int, (code == 0) = false ∧ outOf a b c g xs = ([], code)) := by
      unfold Hid
      cases h1 : vCh a b c
      · exact ⟨1, rfl, outOf_1 h1⟩
      · cases h2 : rowsB vPlaceR PlaceR.nm 24 xs
        · exact ⟨1, rfl, outOf_2 h2⟩
        · cases h3 : inB g 0 5000
          · exact ⟨2, rfl, outOf_3 h1 h2 h3⟩
          · exact absurd ⟨h1, h2, h3⟩ hgood
    clear hgood
    go_enter Try.func51, Try.ntmps51
    go_wp2_with fail
    refine (implOutsideOf a b c A cp xs g _ HX.out hn HS.out).mono ?_
    rintro e1 w1 ⟨A1, c1, ys, code, rfl, hR, hy, hO, hb1⟩
    obtain ⟨code', hc, eo⟩ := eo.out
    obtain ⟨rfl, rfl⟩ := pair_det eo hR
    have HB1 := hide (HBW.out.trans (hb1.mono (by simp)))
    clear hb1 hO hR eo
    go_wp2_with fail
    go_ret
    exact ⟨ret_bool e.out.symm, HB1.out⟩
set_option maxRecDepth 100000 in
theorem specIsClear (a b c : Int) (A : Option Addr) (cp : Nat) (xs : List PlaceR) (g : Int) (w : World) (h : SlAt encPlace 5 w A xs) (hn : xs.length ≤ 1048576) (hx : ∀ x ∈ xs, x.nm.size ≤ maxLen) :
    Calls Try.prog 50 #[.agg #[.int .i64 a, .int .i64 b, .int .i64 c], .slice A xs.length cp, .int .i64 g] w fun e w' => e = .returned (.bool (clearB a b c g xs)) ∧ Below w.heap.size w w' := by
  have hbW : Below w.heap.size w (w.alloc (.cells #[.int .i64 a, .int .i64 b, .int .i64 c] 70)) := (by repeat (first | with_reducible exact Below.refl _ _ | with_reducible assumption | (with_reducible refine Below.drew ?_) | (with_reducible refine below_drewN ?_ _) | ((with_reducible refine Below.alloc ?_ ?_ _); rotate_left; (focus (first | omega | (simp; omega) | simp))) | ((with_reducible refine Below.setCell ?_ ?_ _); rotate_left; (focus (first | omega | (simp; omega) | simp))) | (refine Below.trans ?_ (Below.mono (by assumption) (by first | omega | (simp; omega) | simp)))))
  have HX := hide (h.below hbW)
  have HBW := hide hbW
  have HS := hide hx
  clear h hx hbW
  cases h1 : vCh a b c
  · have e : Hid (clearB a b c g xs = false) := by unfold Hid clearB; simp [h1]
    go_enter Try.func50, Try.ntmps50
    go_wp2_with fail
    refine (specl23Chamber _ 0 a b c _ (by simp) (by simp) (by simp)).mono ?_; rintro e1 w1 ⟨rfl, rfl⟩
    go_wp2_with fail
    go_ret
    exact ⟨ret_bool e.out.symm, HBW.out⟩
  · cases h2 : rowsB vPlaceR PlaceR.nm 24 xs
    · have e : Hid (clearB a b c g xs = false) := by unfold Hid clearB; simp [h2]
      go_enter Try.func50, Try.ntmps50
      go_wp2_with fail
      refine (specl23Chamber _ 0 a b c _ (by simp) (by simp) (by simp)).mono ?_; rintro e1 w1 ⟨rfl, rfl⟩
      go_wp2_with fail
      refine (specl23Ok A cp xs _ HX.out hn HS.out).mono ?_
      rintro e w2 ⟨rfl, hb2⟩
      obtain ⟨fcb2, ffb2, fzb2⟩ := bfacts hb2 (by first | exact Nat.le_refl _ | omega | (simp; omega) | simp); have fsb2 := hb2.size; try simp at fcb2 ffb2 fzb2 fsb2 hb2
      go_wp2_with fail
      go_ret
      exact ⟨ret_bool e.out.symm, (by repeat (first | with_reducible exact Below.refl _ _ | with_reducible assumption | (with_reducible refine Below.drew ?_) | (with_reducible refine below_drewN ?_ _) | ((with_reducible refine Below.alloc ?_ ?_ _); rotate_left; (focus (first | omega | (simp; omega) | simp))) | ((with_reducible refine Below.setCell ?_ ?_ _); rotate_left; (focus (first | omega | (simp; omega) | simp))) | (refine Below.trans ?_ (Below.mono (by assumption) (by first | omega | (simp; omega) | simp)))))⟩
    · cases h3 : inB g 0 5000
      · have e : Hid (clearB a b c g xs = false) := by unfold Hid clearB; simp [h3]
        go_enter Try.func50, Try.ntmps50
        go_wp2_with fail
        refine (specl23Chamber _ 0 a b c _ (by simp) (by simp) (by simp)).mono ?_; rintro e1 w1 ⟨rfl, rfl⟩
        go_wp2_with fail
        refine (specl23Ok A cp xs _ HX.out hn HS.out).mono ?_
        rintro e w2 ⟨rfl, hb2⟩
        obtain ⟨fcb2, ffb2, fzb2⟩ := bfacts hb2 (by first | exact Nat.le_refl _ | omega | (simp; omega) | simp); have fsb2 := hb2.size; try simp at fcb2 ffb2 fzb2 fsb2 hb2
        go_wp2_with fail
        refine (specl23Gap_any _ _).mono ?_; rintro e2 w3 ⟨rfl, rfl⟩
        go_wp2_with fail
        go_ret
        exact ⟨ret_bool e.out.symm, (by repeat (first | with_reducible exact Below.refl _ _ | with_reducible assumption | (with_reducible refine Below.drew ?_) | (with_reducible refine below_drewN ?_ _) | ((with_reducible refine Below.alloc ?_ ?_ _); rotate_left; (focus (first | omega | (simp; omega) | simp))) | ((with_reducible refine Below.setCell ?_ ?_ _); rotate_left; (focus (first | omega | (simp; omega) | simp))) | (refine Below.trans ?_ (Below.mono (by assumption) (by first | omega | (simp; omega) | simp)))))⟩
      · have e : Hid (clearB a b c g xs = (decide ((outsN a b c g 0 xs).length = 0) && decide ((allF xs g xs.length).length = 0))) := by unfold Hid clearB; simp [h1, h2, h3]
        obtain ⟨rv, rl, -⟩ := rowsB_all h2
        have RV := hide rv
        clear rv
        go_enter Try.func50, Try.ntmps50
        go_wp2_with fail
        refine (specl23Chamber _ 0 a b c _ (by simp) (by simp) (by simp)).mono ?_; rintro e1 w1 ⟨rfl, rfl⟩
        go_wp2_with fail
        refine (specl23Ok A cp xs _ HX.out hn HS.out).mono ?_
        rintro e w2 ⟨rfl, hb2⟩
        obtain ⟨fcb2, ffb2, fzb2⟩ := bfacts hb2 (by first | exact Nat.le_refl _ | omega | (simp; omega) | simp); have fsb2 := hb2.size; try simp at fcb2 ffb2 fzb2 fsb2 hb2
        have HX2 := hide (HX.out.below (by simpa using hb2))
        have HB2 := hide (HBW.out.trans (hb2.mono (by omega)))
        go_wp2_with fail
        refine (specl23Gap_any _ _).mono ?_; rintro e2 w3 ⟨rfl, rfl⟩
        go_wp2_with fail
        refine (specl23Outside _ a b c A cp xs g _ HX2.out hn h1 RV.out h3 (by rw [fcb2 _ _ (by omega)]; simp) (by rw [fcb2 _ _ (by omega)]; simp) (by rw [fcb2 _ _ (by omega)]; simp)).mono ?_
        rintro e3 w4 ⟨A4, c4, rfl, -, hb4⟩
        have HX4 := hide (HX2.out.below hb4)
        have HB4 := hide (HB2.out.trans (hb4.mono HB2.out.size))
        clear hb4 hb2 fcb2 ffb2 fzb2
        by_cases h0 : (outsN a b c g 0 xs).length = 0
        · have t0 : (((outsN a b c g 0 xs).length : Int) == 0) = true := by simp [h0]
          have H0 := hide h0
          clear h0
          go_wp2_with fail
          refine (specl23Clashes A cp xs g _ HX4.out rl RV.out).mono ?_
          rintro e5 w5 ⟨A5, c5, vs5, rfl, -, hb5⟩
          have HB5 := hide (HB4.out.trans (hb5.mono HB4.out.size))
          clear hb5
          go_wp2_with fail
          go_ret
          exact ⟨ret_bool (by rw [e.out, H0.out, beq_len]; rfl), HB5.out⟩
        · have t0 : (((outsN a b c g 0 xs).length : Int) == 0) = false := by simp; intro q; simp [q] at h0
          have H0 := hide h0
          clear h0
          go_wp2_with fail
          go_ret
          exact ⟨ret_bool (by rw [e.out]; simp [H0.out]), HB4.out⟩
set_option maxRecDepth 100000 in
set_option maxHeartbeats 2000000 in
theorem lawIsClear (a b cc : Int) (A : Option Addr) (c : Nat) (xs : List PlaceR) (g : Int) (w : World) (hx : SlAt encPlace 5 w A xs) (hl : xs.length ≤ 9223372036854775807) (hxs : ∀ x ∈ xs, x.nm.size ≤ maxLen) :
    Calls Try.prog 12 #[.agg #[.int .i64 a, .int .i64 b, .int .i64 cc], .slice A xs.length c, .int .i64 g] w fun e w' => e = .returned (.bool true) ∧ Below w.heap.size w w' := by
  have hbW : Below w.heap.size w (w.alloc (.cells #[.int .i64 a, .int .i64 b, .int .i64 cc] 66)) := (by repeat (first | with_reducible exact Below.refl _ _ | with_reducible assumption | (with_reducible refine Below.drew ?_) | (with_reducible refine below_drewN ?_ _) | ((with_reducible refine Below.alloc ?_ ?_ _); rotate_left; (focus (first | omega | (simp; omega) | simp))) | ((with_reducible refine Below.setCell ?_ ?_ _); rotate_left; (focus (first | omega | (simp; omega) | simp))) | (refine Below.trans ?_ (Below.mono (by assumption) (by first | omega | (simp; omega) | simp)))))
  have HBW := hide hbW
  have HX := hide (hx.below hbW)
  have HS := hide hxs
  clear hxs
  clear hbW hx
  go_enter Try.func12, Try.ntmps12
  go_wp2_with fail
  refine (lawsszPlaceS_any A c xs _ _ HX.out hl HS.out (by omega) (by omega)).mono ?_
  rintro e w1 ⟨r2, rfl, ra2, rb2, hr2, hb1⟩
  have z1 := hb1.size
  have B1 : Hid (Below (w.alloc (.cells #[.int .i64 a, .int .i64 b, .int .i64 cc] 66)).heap.size (w.alloc (.cells #[.int .i64 a, .int .i64 b, .int .i64 cc] 66)) w1) := hide hb1
  clear hb1
  by_cases hq2 : 0 ≤ r2
  · have _hq := hq2
    have hn : xs.length ≤ 1048576 := by have := hr2 hq2; omega
    clear hr2
    have p0_0 := B1.out.cell (p := ⟨w.heap.size, 0, none⟩) (by simp)
    have p0_1 := B1.out.cell (p := ⟨w.heap.size, 1, none⟩) (by simp)
    have p0_2 := B1.out.cell (p := ⟨w.heap.size, 2, none⟩) (by simp)
    simp at p0_0 p0_1 p0_2
    go_wp2_with fail
    refine (lawstoChamber a b cc _).mono ?_
    rintro e w2 ⟨rfl, hb2⟩
    clear p0_0 p0_1 p0_2
    have z2 : (w.alloc (.cells #[.int .i64 a, .int .i64 b, .int .i64 cc] 66)).heap.size ≤ w2.heap.size := Nat.le_trans z1 hb2.size
    have y2 : w1.heap.size ≤ w2.heap.size := hb2.size
    have B2 : Hid (Below (w.alloc (.cells #[.int .i64 a, .int .i64 b, .int .i64 cc] 66)).heap.size (w.alloc (.cells #[.int .i64 a, .int .i64 b, .int .i64 cc] 66)) w2) := hide (B1.out.trans (hb2.mono z1))
    clear B1 hb2
    go_wp2_with fail
    refine (lawstoPlaceS_o A c xs _ (HX.out.below B2.out) hn).mono ?_
    rintro e w3 ⟨bY, rfl, hOY, hb3⟩
    have z3 : (w.alloc (.cells #[.int .i64 a, .int .i64 b, .int .i64 cc] 66)).heap.size ≤ w3.heap.size := Nat.le_trans z2 hb3.size
    have y3 : w2.heap.size ≤ w3.heap.size := hb3.size
    have B3 : Hid (Below (w.alloc (.cells #[.int .i64 a, .int .i64 b, .int .i64 cc] 66)).heap.size (w.alloc (.cells #[.int .i64 a, .int .i64 b, .int .i64 cc] 66)) w3) := hide (B2.out.trans (hb3.mono z2))
    clear B2 hb3
    have Y_3 := hide hOY
    have Y_lt := hide (fun k hk => ((hOY).lt k hk).2)
    clear hOY
    go_wp2_with fail
    refine (specIsClear a b cc _ _ xs g _ ((Y_3.out).at_ (fun _ => rfl)) hn HS.out).mono ?_
    rintro e w4 ⟨rfl, hb4⟩
    have z4 : (w.alloc (.cells #[.int .i64 a, .int .i64 b, .int .i64 cc] 66)).heap.size ≤ w4.heap.size := Nat.le_trans z3 hb4.size
    have y4 : w3.heap.size ≤ w4.heap.size := hb4.size
    have B4 : Hid (Below (w.alloc (.cells #[.int .i64 a, .int .i64 b, .int .i64 cc] 66)).heap.size (w.alloc (.cells #[.int .i64 a, .int .i64 b, .int .i64 cc] 66)) w4) := hide (B3.out.trans (hb4.mono z3))
    have Y_4 := hide (Y_3.out.below hb4)
    clear Y_3 B3 hb4
    go_wp2_with fail
    refine (lawstoPlaceS_o A c xs _ (HX.out.below B4.out) hn).mono ?_
    rintro e w5 ⟨bX, rfl, hOX, hb5⟩
    have z5 : (w.alloc (.cells #[.int .i64 a, .int .i64 b, .int .i64 cc] 66)).heap.size ≤ w5.heap.size := Nat.le_trans z4 hb5.size
    have y5 : w4.heap.size ≤ w5.heap.size := hb5.size
    have B5 : Hid (Below (w.alloc (.cells #[.int .i64 a, .int .i64 b, .int .i64 cc] 66)).heap.size (w.alloc (.cells #[.int .i64 a, .int .i64 b, .int .i64 cc] 66)) w5) := hide (B4.out.trans (hb5.mono z4))
    have Y_5 := hide (Y_4.out.below hb5)
    clear Y_4 B4 hb5
    have X_5 := hide hOX
    have X_lt := hide (fun k hk => ((hOX).lt k hk).2)
    clear hOX
    have p0_0 := B5.out.cell (p := ⟨w.heap.size, 0, none⟩) (by simp)
    have p0_1 := B5.out.cell (p := ⟨w.heap.size, 1, none⟩) (by simp)
    have p0_2 := B5.out.cell (p := ⟨w.heap.size, 2, none⟩) (by simp)
    simp at p0_0 p0_1 p0_2
    go_wp2_with fail
    refine (lawstoChamber a b cc _).mono ?_
    rintro e w6 ⟨rfl, hb6⟩
    clear p0_0 p0_1 p0_2
    have z6 : (w.alloc (.cells #[.int .i64 a, .int .i64 b, .int .i64 cc] 66)).heap.size ≤ w6.heap.size := Nat.le_trans z5 hb6.size
    have y6 : w5.heap.size ≤ w6.heap.size := hb6.size
    have B6 : Hid (Below (w.alloc (.cells #[.int .i64 a, .int .i64 b, .int .i64 cc] 66)).heap.size (w.alloc (.cells #[.int .i64 a, .int .i64 b, .int .i64 cc] 66)) w6) := hide (B5.out.trans (hb6.mono z5))
    have Y_6 := hide (Y_5.out.below hb6)
    have X_6 := hide (X_5.out.below hb6)
    clear Y_5 X_5 B5 hb6
    go_wp2_with fail
    refine (implIsClear a b cc _ _ xs g _ ((X_6.out).at_ (fun _ => rfl)) hn HS.out).mono ?_
    rintro e w7 ⟨rfl, hb7⟩
    have z7 : (w.alloc (.cells #[.int .i64 a, .int .i64 b, .int .i64 cc] 66)).heap.size ≤ w7.heap.size := Nat.le_trans z6 hb7.size
    have y7 : w6.heap.size ≤ w7.heap.size := hb7.size
    have B7 : Hid (Below (w.alloc (.cells #[.int .i64 a, .int .i64 b, .int .i64 cc] 66)).heap.size (w.alloc (.cells #[.int .i64 a, .int .i64 b, .int .i64 cc] 66)) w7) := hide (B6.out.trans (hb7.mono z6))
    have Y_7 := hide (Y_6.out.below hb7)
    have X_7 := hide (X_6.out.below hb7)
    clear Y_6 X_6 B6 hb7
    go_wp2_with fail
    refine (lawstoPlaceS_o A c xs _ (HX.out.below B7.out) hn).mono ?_
    rintro e w8 ⟨bXe, rfl, hOXe, hb8⟩
    have z8 : (w.alloc (.cells #[.int .i64 a, .int .i64 b, .int .i64 cc] 66)).heap.size ≤ w8.heap.size := Nat.le_trans z7 hb8.size
    have y8 : w7.heap.size ≤ w8.heap.size := hb8.size
    have B8 : Hid (Below (w.alloc (.cells #[.int .i64 a, .int .i64 b, .int .i64 cc] 66)).heap.size (w.alloc (.cells #[.int .i64 a, .int .i64 b, .int .i64 cc] 66)) w8) := hide (B7.out.trans (hb8.mono z7))
    have Y_8 := hide (Y_7.out.below hb8)
    have X_8 := hide (X_7.out.below hb8)
    clear Y_7 X_7 B7 hb8
    have Xe_8 := hide hOXe
    have Xe_lt := hide (fun k hk => ((hOXe).lt k hk).2)
    clear hOXe
    go_wp2_with fail
    refine (lawseqPlaceS_same _ _ _ _ xs _ ((X_8.out).at_ (fun _ => rfl)) ((Xe_8.out).at_ (fun _ => rfl)) hn).mono ?_
    rintro e w9 ⟨rfl, hb9⟩
    have z9 : (w.alloc (.cells #[.int .i64 a, .int .i64 b, .int .i64 cc] 66)).heap.size ≤ w9.heap.size := Nat.le_trans z8 hb9.size
    have y9 : w8.heap.size ≤ w9.heap.size := hb9.size
    have B9 : Hid (Below (w.alloc (.cells #[.int .i64 a, .int .i64 b, .int .i64 cc] 66)).heap.size (w.alloc (.cells #[.int .i64 a, .int .i64 b, .int .i64 cc] 66)) w9) := hide (B8.out.trans (hb9.mono z8))
    have Y_9 := hide (Y_8.out.below hb9)
    have X_9 := hide (X_8.out.below hb9)
    have Xe_9 := hide (Xe_8.out.below hb9)
    clear Y_8 X_8 Xe_8 B8 hb9
    go_wp2_with fail
    go_ret
    exact ⟨rfl, Below.trans HBW.out (B9.out.mono (by simp))⟩
  · go_wp2_with fail
    go_ret
    exact ⟨rfl, Below.trans HBW.out (B1.out.mono (by simp))⟩
end Go.Proofs.Ytdimapcecdffnaa
