/- Contracts: what heats leave free, which pours they have, when the last one ends, the next heat; copies and appends of heats. -/
import Derived.Test.YtklmbgefdopifaaHtS
import Derived.Test.YtklmbgefdopifaaArith
import Derived.Test.YtklmbgefdopifaaRowI
namespace Go.Proofs.Ytklmbgefdopifaa
open Go.RowKit

theorem sizePour (A : Option Addr) (n c : Nat) (w : World) : Calls Try.prog 106 #[.slice A n c] w fun e w' => e = .returned (.int .i64 n) ∧ w = w' := by
  go_enter Try.func106, Try.ntmps106
  go_wp2
  go_ret
  exact ⟨rfl, rfl⟩
theorem sizeCrucible (A : Option Addr) (n c : Nat) (w : World) : Calls Try.prog 73 #[.slice A n c] w fun e w' => e = .returned (.int .i64 n) ∧ w = w' := by
  go_enter Try.func73, Try.ntmps73
  go_wp2
  go_ret
  exact ⟨rfl, rfl⟩
theorem hasPour1_is (x0 x1 x2 x3 p : Int) (b : Bool) (q : Nat) (w : World) (c0 : w.cell? ⟨q, 0, none⟩ = some (.int .i64 p)) (hb : (x0 == p) = b) :
    Calls Try.prog 115 #[.agg #[.int .i64 x0, .int .i64 x1, .int .i64 x2, .int .i64 x3], .pointer (some ⟨q, 0, none⟩)] w fun e w' => e = .returned (.bool b) ∧ Below w.heap.size w w' := by
  have hq : q < w.heap.size := World.block_lt_of_cell? w _ c0
  have c1 : (w.alloc (.cells #[.int .i64 x0, .int .i64 x1, .int .i64 x2, .int .i64 x3] 110)).cell? ⟨q, 0, none⟩ = some (.int .i64 p) := (World.cell?_alloc_past _ _ _ hq).trans c0
  have HB := hide hb
  clear hb
  go_enter Try.func115, Try.ntmps115
  go_wp2_with fail
  go_ret
  exact ⟨ret_bool HB.out, (by repeat (first | with_reducible exact Below.refl _ _ | with_reducible assumption | (with_reducible refine Below.drew ?_) | (with_reducible refine below_drewN ?_ _) | ((with_reducible refine Below.alloc ?_ ?_ _); rotate_left; (focus (first | omega | (simp; omega) | simp))) | ((with_reducible refine Below.setCell ?_ ?_ _); rotate_left; (focus (first | omega | (simp; omega) | simp))) | (refine Below.trans ?_ (Below.mono (by assumption) (by first | omega | (simp; omega) | simp)))))⟩
set_option maxRecDepth 100000 in
theorem idxHeat (A : Option Addr) (c : Nat) (hs : List HeatR) (q : Nat) (p : Int) (w : World) (h : SlAt encHeat 4 w A hs) (hq : w.cell? ⟨q, 0, none⟩ = some (.int .i64 p)) (hn : hs.length ≤ 1048576) :
    Calls Try.prog 117 #[.slice A hs.length c, .func (.func 115) #[] #[.pointer (some ⟨q, 0, none⟩)]] w fun e w' => ∃ r : Int, e = .returned (.int .i64 r) ∧ decide (0 ≤ r) = Ht.hasP hs p ∧ Below w.heap.size w w' := by
  have HX := hide h
  have hql : q < w.heap.size := World.block_lt_of_cell? w _ hq
  have HQ := hide hq
  clear h hq
  go_enter Try.func117, Try.ntmps117
  go_wp2_with fail
  go_loopw [8, 5] (fun v _ wr => ∃ k : Nat, v = .int .i64 k ∧ k ≤ hs.length ∧ Hid (∀ j (hj : j < hs.length), j < k → hs[j].pr ≠ p) ∧ Hid (Below w.heap.size w wr)) (fun v _ _ => hs.length - (intOf v).toNat)
  case atStart => exact ⟨0, rfl, by omega, hide fun j _ h => by omega, hide (Below.refl _ _)⟩
  case round =>
    obtain ⟨k, rfl, hk, HJ, HB⟩ := hrel
    have hz := HB.out.size
    by_cases hlt : k < hs.length
    · obtain ⟨b, off, rfl, hbl, hc⟩ := (HX.out.below HB.out) k hlt
      have hc0 := hc 0 _ rfl
      have hc1 := hc 1 _ rfl
      have hc2 := hc 2 _ rfl
      have hc3 := hc 3 _ rfl
      simp only [Nat.add_zero] at hc0
      have hqr : wr.cell? ⟨q, 0, none⟩ = some (.int .i64 p) := (HB.out.cell (p := ⟨q, 0, none⟩) hql).trans HQ.out
      have HE : Hid (∀ e, hs[k].pr = e → e = p → Ht.hasP hs p = true) := hide fun e h1 h2 => Ht.hasP_yes hlt (h1.trans h2)
      have HS : Hid (hs[k].pr ≠ p → ∀ j (hj : j < hs.length), j < k + 1 → hs[j].pr ≠ p) := hide fun h1 j hj h2 => by
        by_cases e : j = k
        · subst e; exact h1
        · exact HJ.out j hj (by omega)
      clear hc HJ
      generalize hs[k] = x at *
      obtain ⟨x0, x1, x2, x3⟩ := x
      simp only at hc0 hc1 hc2 hc3 HE HS
      cases hp : (x0 == p)
      · have hne : x0 ≠ p := by simpa using hp
        have HS2 := hide (HS.out hne)
        clear HS HE hne
        go_wp2_with (go_at_call 115; refine (hasPour1_is _ _ _ _ p _ q _ hqr hp).mono ?_; rintro e w2 ⟨rfl, hb2⟩)
        go_roundw
        case rel => exact ⟨k + 1, by go_num, by omega, HS2, hide (HB.out.trans (hb2.mono hz))⟩
        case measure => simp [intOf]; omega
      · have e := hide (HE.out x0 rfl (by simpa using hp))
        clear HS HE
        go_wp2_with (go_at_call 115; refine (hasPour1_is _ _ _ _ p _ q _ hqr hp).mono ?_; rintro e2 w2 ⟨rfl, hb2⟩)
        go_ret
        exact ⟨_, rfl, by rw [e.out]; simp, HB.out.trans (hb2.mono hz)⟩
    · have e : Hid (Ht.hasP hs p = false) := hide (Ht.hasP_not fun j hj => HJ.out j hj (by omega))
      clear HJ
      go_wp2_with fail
      go_ret
      exact ⟨-1, rfl, by rw [e.out]; rfl, HB.out⟩
set_option maxRecDepth 100000 in
theorem implhasPour (A : Option Addr) (c : Nat) (hs : List HeatR) (p : Int) (w : World) (h : SlAt encHeat 4 w A hs) (hn : hs.length ≤ 1048576) :
    Calls Try.prog 107 #[.slice A hs.length c, .int .i64 p] w fun e w' => e = .returned (.bool (Ht.hasP hs p)) ∧ Below w.heap.size w w' := by
  have hcon : ∀ (q : Nat) (w : World), SlAt encHeat 4 w A hs → w.cell? ⟨q, 0, none⟩ = some (.int .i64 p) → Calls Try.prog 114 #[.slice A hs.length c, .func (.func 115) #[] #[.pointer (some ⟨q, 0, none⟩)]] w fun e w' => e = .returned (.bool (Ht.hasP hs p)) ∧ Below w.heap.size w w' := by
    intro q w h hq
    have hi := idxHeat A c hs q p w h hq hn
    have HI := hide hi
    clear h hq hi
    go_enter Try.func114, Try.ntmps114
    go_wp2_with fail
    refine HI.out.mono ?_
    rintro e w1 ⟨r, rfl, hr, hb1⟩
    have HR := hide hr
    have HB := hide hb1
    clear hr hb1 HI
    go_wp2_with fail
    go_ret
    exact ⟨ret_bool HR.out, HB.out⟩
  have HX := hide (h.below ((Below.refl _ _).alloc (Nat.le_refl _) (.cells #[.int .i64 p] 2)))
  clear h
  go_enter Try.func107, Try.ntmps107
  go_wp2_with fail
  refine (hcon w.heap.size _ HX.out (by simp)).mono ?_
  rintro e w1 ⟨rfl, hb1⟩
  obtain ⟨fcb1, ffb1, fzb1⟩ := bfacts hb1 (by first | exact Nat.le_refl _ | omega | (simp; omega) | simp); have fsb1 := hb1.size; try simp at fcb1 ffb1 fzb1 fsb1 hb1
  go_wp2_with fail
  go_ret
  exact ⟨rfl, (by repeat (first | with_reducible exact Below.refl _ _ | with_reducible assumption | (with_reducible refine Below.drew ?_) | (with_reducible refine below_drewN ?_ _) | ((with_reducible refine Below.alloc ?_ ?_ _); rotate_left; (focus (first | omega | (simp; omega) | simp))) | ((with_reducible refine Below.setCell ?_ ?_ _); rotate_left; (focus (first | omega | (simp; omega) | simp))) | (refine Below.trans ?_ (Below.mono (by assumption) (by first | omega | (simp; omega) | simp)))))⟩
end Go.Proofs.Ytklmbgefdopifaa
