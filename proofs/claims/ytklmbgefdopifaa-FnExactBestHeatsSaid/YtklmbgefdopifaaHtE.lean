/- Rows of heats: equal ones, marks. -/
import Derived.Test.YtklmbgefdopifaaHtR
namespace Go.Proofs.Ytklmbgefdopifaa
open Go.RowKit

theorem lawseqHeat_same (x0 : Int) (x1 : Int) (x2 : Int) (x3 : Int) (w : World) : Calls Try.prog 62 #[.agg #[.int .i64 x0, .int .i64 x1, .int .i64 x2, .int .i64 x3], .agg #[.int .i64 x0, .int .i64 x1, .int .i64 x2, .int .i64 x3]] w fun e w' => e = .returned (.bool true) ∧ Below w.heap.size w w' := by
  go_enter Try.func62, Try.ntmps62
  go_wp2
  go_ret
  exact ⟨rfl, (by repeat (first | with_reducible exact Below.refl _ _ | with_reducible assumption | (with_reducible refine Below.drew ?_) | (with_reducible refine below_drewN ?_ _) | ((with_reducible refine Below.alloc ?_ ?_ _); rotate_left; (focus (first | omega | (simp; omega) | simp))) | ((with_reducible refine Below.setCell ?_ ?_ _); rotate_left; (focus (first | omega | (simp; omega) | simp))) | (refine Below.trans ?_ (Below.mono (by assumption) (by first | omega | (simp; omega) | simp)))))⟩
theorem lawseqHeatS_same (A A' : Option Addr) (c c' : Nat) (xs : List HeatR) (w : World) (h : SlAt encHeat 4 w A xs) (h' : SlAt encHeat 4 w A' xs) (hn : xs.length ≤ 1048576) :
    Calls Try.prog 26 #[.slice A xs.length c, .slice A' xs.length c'] w fun e w' => e = .returned (.bool true) ∧ Below w.heap.size w w' := by
  have HX := hide h
  have HY := hide h'
  clear h h'
  go_enter Try.func26, Try.ntmps26
  go_wp2_with fail
  go_loopw [5] (fun v wr => ∃ k : Nat, v = .int .i64 k ∧ k ≤ xs.length ∧ Below w.heap.size w wr) (fun v _ => xs.length - (intOf v).toNat)
  case atStart => exact ⟨0, rfl, by omega, (by repeat (first | with_reducible exact Below.refl _ _ | with_reducible assumption | (with_reducible refine Below.drew ?_) | (with_reducible refine below_drewN ?_ _) | ((with_reducible refine Below.alloc ?_ ?_ _); rotate_left; (focus (first | omega | (simp; omega) | simp))) | ((with_reducible refine Below.setCell ?_ ?_ _); rotate_left; (focus (first | omega | (simp; omega) | simp))) | (refine Below.trans ?_ (Below.mono (by assumption) (by first | omega | (simp; omega) | simp)))))⟩
  case round =>
    obtain ⟨k, rfl, hk, hb⟩ := hrel
    by_cases hlt : k < xs.length
    · obtain ⟨b, off, rfl, hbl, hc⟩ := HX.out.below hb k hlt
      obtain ⟨b2, off2, rfl, hbl2, hd⟩ := HY.out.below hb k hlt
      have hc0 := hc 0 _ rfl
      have hd0 := hd 0 _ rfl
      have hc1 := hc 1 _ rfl
      have hd1 := hd 1 _ rfl
      have hc2 := hc 2 _ rfl
      have hd2 := hd 2 _ rfl
      have hc3 := hc 3 _ rfl
      have hd3 := hd 3 _ rfl
      simp only [Nat.add_zero] at hc0 hd0
      have hz := hb.size
      have HB := hide hb
      clear hc hd
      generalize hx : xs[k] = x at *
      clear hx
      obtain ⟨x0, x1, x2, x3⟩ := x
      simp only at hc0 hd0 hc1 hd1 hc2 hd2 hc3 hd3
      go_wp2_with fail
      refine wp_region_kept (by kernel_rfl) (by kernel_rfl) ?_
      intro gc gf gz
      repeat (go_big_quiet_step ((go_at_call 62; exact Calls.kept (lawseqHeat_same x0 x1 x2 x3 _))))
      refine wpQuiet_nil ?_
      intro w1 hw'
      obtain ⟨⟨_, hb1⟩, rfl⟩ := hw'
      clear gc gf gz
      try dsimp only
      have fs1 := hb1.size
      try simp at fs1 hb1
      go_wp2_with fail
      go_roundw
      case rel => exact ⟨k + 1, by go_num, by omega, (by repeat (first | with_reducible exact Below.refl _ _ | with_reducible assumption | (with_reducible refine Below.drew ?_) | (with_reducible refine below_drewN ?_ _) | ((with_reducible refine Below.alloc ?_ ?_ _); rotate_left; (focus (first | omega | (simp; omega) | simp))) | ((with_reducible refine Below.setCell ?_ ?_ _); rotate_left; (focus (first | omega | (simp; omega) | simp))) | (refine Below.trans ?_ (Below.mono (by assumption) (by first | omega | (simp; omega) | simp)))))⟩
      case measure => simp [intOf]; omega
    · go_wp2_with fail
      go_ret
      exact ⟨rfl, hb⟩
def mkHeat (k : Int) : HeatR := ⟨k, (k + 1), (k + 1 + 1), (k + 1 + 1 + 1)⟩
def marksHeat (k : Int) (n : Nat) : List HeatR := (List.range n).map fun i : Nat => mkHeat (k + 4 * (i : Int))
theorem marksHeat_length (k : Int) (n : Nat) : (marksHeat k n).length = n := by simp [marksHeat]
theorem marksHeat_get (k : Int) (n j : Nat) (h : j < n) : (marksHeat k n)[j]'(by rw [marksHeat_length]; exact h) = mkHeat (k + 4 * (j : Int)) := by simp [marksHeat]
theorem marksHeat_succ (k : Int) (n : Nat) : marksHeat k (n + 1) = marksHeat k n ++ [mkHeat (k + 4 * (n : Int))] := by simp [marksHeat, List.range_succ]
theorem set_markHeat {xs : List HeatR} {k : Int} {i : Nat} (h : i < xs.length) : ((((((marksHeat k i ++ xs.drop i).flatMap encHeat).set (i * 4) (.int .i64 (k + 4 * (i : Int)))).set (i * 4 + 1) (.int .i64 (k + 4 * (i : Int) + 1))).set (i * 4 + 2) (.int .i64 (k + 4 * (i : Int) + 1 + 1))).set (i * 4 + 3) (.int .i64 (k + 4 * (i : Int) + 1 + 1 + 1))) = (marksHeat k (i + 1) ++ xs.drop (i + 1)).flatMap encHeat := by
  have hl := flat_length (enc := encHeat) (sz := 4) (fun _ => rfl) (marksHeat k i)
  rw [marksHeat_length] at hl
  rw [marksHeat_succ, List.drop_eq_getElem_cons h, List.flatMap_append, List.flatMap_append, List.flatMap_append, List.flatMap_cons, List.flatMap_cons, List.flatMap_nil, List.append_nil, List.append_assoc]
  generalize (marksHeat k i).flatMap encHeat = A at *
  rw [← hl]
  generalize (xs.drop (i + 1)).flatMap encHeat = C
  unfold mkHeat encHeat
  simp
theorem storesHeat {w0 w : World} {g B T m c i : Nat} {cs : List Value} (v0 v1 v2 v3 : Value) (h : w.ownsRow B T 4 (.slice (some ⟨g, 0, none⟩) m c) m cs) (hg : w0.grownBy w (some g)) :
    ((((w.setCell ⟨g, i * 4, none⟩ (v0)).setCell ⟨g, i * 4 + 1, none⟩ (v1)).setCell ⟨g, i * 4 + 2, none⟩ (v2)).setCell ⟨g, i * 4 + 3, none⟩ (v3)).ownsRow B T 4 (.slice (some ⟨g, 0, none⟩) m c) m ((((cs.set (i * 4) (v0)).set (i * 4 + 1) (v1)).set (i * 4 + 2) (v2)).set (i * 4 + 3) (v3)) ∧ w0.grownBy ((((w.setCell ⟨g, i * 4, none⟩ (v0)).setCell ⟨g, i * 4 + 1, none⟩ (v1)).setCell ⟨g, i * 4 + 2, none⟩ (v2)).setCell ⟨g, i * 4 + 3, none⟩ (v3)) (some g) := by
  have s0 := World.ownsRow.stored h (i * 4) v0
  have t0 := grown_trans hg s0.2
  have s1 := World.ownsRow.stored s0.1 (i * 4 + 1) v1
  have t1 := grown_trans t0 s1.2
  have s2 := World.ownsRow.stored s1.1 (i * 4 + 2) v2
  have t2 := grown_trans t1 s2.2
  have s3 := World.ownsRow.stored s2.1 (i * 4 + 3) v3
  have t3 := grown_trans t2 s3.2
  exact ⟨s3.1, t3⟩
set_option maxRecDepth 100000 in
theorem lawsmarkHeatS (A : Option Addr) (c B : Nat) (xs : List HeatR) (k : Int) (w : World) (h : Own encHeat 4 110 w B (.slice A xs.length c) xs) (hn : xs.length ≤ 1048576) (k0 : 1 ≤ k) (k1 : k ≤ 100000000000) :
    Calls Try.prog 29 #[.slice A xs.length c, .int .i64 k] w fun e w' => e = .returned (.int .i64 (k + 4 * xs.length)) ∧ Own encHeat 4 110 w' B (.slice A xs.length c) (marksHeat k xs.length) ∧ w.grownBy w' (Value.slice A xs.length c).ownBlock := by
  have HX := hide h
  clear h
  go_enter Try.func29, Try.ntmps29
  go_wp2_with fail
  go_loopw [5, 1] (fun v q wr => ∃ i : Nat, v = .int .i64 i ∧ q = .int .i64 (k + 4 * i) ∧ i ≤ xs.length ∧ Hid (wr.ownsRow B 110 4 (.slice A xs.length c) xs.length ((marksHeat k i ++ xs.drop i).flatMap encHeat) ∧ w.grownBy wr (Value.slice A xs.length c).ownBlock)) (fun v _ _ => xs.length - (intOf v).toNat)
  case atStart => exact ⟨0, rfl, by simp, by omega, hide ⟨by have q : w.ownsRow B 110 4 (.slice A xs.length c) xs.length (xs.flatMap encHeat) := HX.out; simpa [marksHeat] using q, World.grownBy.refl _ _⟩⟩
  case round =>
    obtain ⟨i, rfl, rfl, hi, hR⟩ := hrel
    by_cases hlt : i < xs.length
    · obtain ⟨g, rfl, hg1, hg2⟩ := own_addr hR.out.1 (by omega)
      have hl := flat_length (enc := encHeat) (sz := 4) (fun _ => rfl) (marksHeat k i ++ xs.drop i)
      rw [List.length_append, marksHeat_length, List.length_drop, show i + (xs.length - i) = xs.length by omega] at hl
      obtain ⟨u0, hu0⟩ : ∃ u, wr.cell? ⟨g, i * 4, none⟩ = some u := ⟨_, (World.ownsRow.cellAt hR.out.1 (i * 4) (by omega)).trans (List.getElem?_eq_getElem (by omega))⟩
      have hf0 := World.ownsRow.frozenAt hR.out.1 (i * 4)
      obtain ⟨u1, hu1⟩ : ∃ u, wr.cell? ⟨g, i * 4 + 1, none⟩ = some u := ⟨_, (World.ownsRow.cellAt hR.out.1 (i * 4 + 1) (by omega)).trans (List.getElem?_eq_getElem (by omega))⟩
      have hf1 := World.ownsRow.frozenAt hR.out.1 (i * 4 + 1)
      obtain ⟨u2, hu2⟩ : ∃ u, wr.cell? ⟨g, i * 4 + 2, none⟩ = some u := ⟨_, (World.ownsRow.cellAt hR.out.1 (i * 4 + 2) (by omega)).trans (List.getElem?_eq_getElem (by omega))⟩
      have hf2 := World.ownsRow.frozenAt hR.out.1 (i * 4 + 2)
      obtain ⟨u3, hu3⟩ : ∃ u, wr.cell? ⟨g, i * 4 + 3, none⟩ = some u := ⟨_, (World.ownsRow.cellAt hR.out.1 (i * 4 + 3) (by omega)).trans (List.getElem?_eq_getElem (by omega))⟩
      have hf3 := World.ownsRow.frozenAt hR.out.1 (i * 4 + 3)
      clear hl
      have hr1 := hide hR.out.1
      have hgr := hide hR.out.2
      have q := storesHeat (i := i) (.int .i64 (k + 4 * (i : Int))) (.int .i64 (k + 4 * (i : Int) + 1)) (.int .i64 (k + 4 * (i : Int) + 1 + 1)) (.int .i64 (k + 4 * (i : Int) + 1 + 1 + 1)) hr1.out hgr.out
      rw [set_markHeat hlt] at q
      have Q := hide q
      clear q
      go_wp2_with fail
      go_roundw
      case rel => exact ⟨i + 1, by go_num, by go_num, by omega, Q⟩
      case measure => simp [intOf]; omega
    · obtain rfl : i = xs.length := by omega
      have hR' := hR.out
      rw [List.drop_length, List.append_nil] at hR'
      have HN := hide hR'
      clear hR hR'
      go_wp2_with fail
      go_ret
      exact ⟨rfl, by have := HN.out.1; unfold Own; rwa [marksHeat_length], HN.out.2⟩
set_option maxRecDepth 100000 in
theorem lawsheldHeatS (A : Option Addr) (c : Nat) (n : Nat) (k : Int) (w : World) (h : SlAt encHeat 4 w A (marksHeat k n)) (hn : n ≤ 1048576) (k0 : 1 ≤ k) (k1 : k ≤ 100000000000) :
    Calls Try.prog 30 #[.slice A n c, .int .i64 k] w fun e w' => e = .returned (.int .i64 (k + 4 * n)) ∧ Below w.heap.size w w' := by
  have HX := hide h
  clear h
  go_enter Try.func30, Try.ntmps30
  go_wp2_with fail
  go_loopw [5, 1] (fun v q wr => ∃ i : Nat, v = .int .i64 i ∧ q = .int .i64 (k + 4 * i) ∧ i ≤ n ∧ Below w.heap.size w wr) (fun v _ _ => n - (intOf v).toNat)
  case atStart => exact ⟨0, rfl, by simp, by omega, (by repeat (first | with_reducible exact Below.refl _ _ | with_reducible assumption | (with_reducible refine Below.drew ?_) | (with_reducible refine below_drewN ?_ _) | ((with_reducible refine Below.alloc ?_ ?_ _); rotate_left; (focus (first | omega | (simp; omega) | simp))) | ((with_reducible refine Below.setCell ?_ ?_ _); rotate_left; (focus (first | omega | (simp; omega) | simp))) | (refine Below.trans ?_ (Below.mono (by assumption) (by first | omega | (simp; omega) | simp)))))⟩
  case round =>
    obtain ⟨i, rfl, rfl, hi, hb⟩ := hrel
    by_cases hlt : i < n
    · obtain ⟨b, off, rfl, hbl, hc⟩ := HX.out.below hb i (by rw [marksHeat_length]; exact hlt)
      rw [marksHeat_get _ _ _ hlt] at hc
      have hc0 := hc 0 _ rfl
      have hc1 := hc 1 _ rfl
      have hc2 := hc 2 _ rfl
      have hc3 := hc 3 _ rfl
      simp only [mkHeat, Nat.add_zero] at hc0 hc1 hc2 hc3
      have HB := hide hb
      have hz := hb.size
      clear hc hb
      have HB2 := HB
      go_wp2_with fail
      go_roundw
      case rel => exact ⟨i + 1, by go_num, by go_num, by omega, by first | exact HB2.out | exact below_drewN HB2.out _⟩
      case measure => simp [intOf]; omega
    · obtain rfl : i = n := by omega
      go_wp2_with fail
      go_ret
      exact ⟨rfl, hb⟩
theorem held_own_Heat {B c : Nat} {A : Option Addr} {n : Nat} {k : Int} {w : World} (h : Own encHeat 4 110 w B (.slice A n c) (marksHeat k n)) (hn : n ≤ 1048576) (k0 : 1 ≤ k) (k1 : k ≤ 100000000000) :
    Calls Try.prog 30 #[.slice A n c, .int .i64 k] w fun e w' => e = .returned (.int .i64 (k + 4 * n)) ∧ Below w.heap.size w w' :=
  lawsheldHeatS A c n k w (Own.at_ (B := B) (c := c) (T := 110) (enc := encHeat) (sz := 4) (fun _ => rfl) (by rw [marksHeat_length]; exact h)) hn k0 k1
end Go.Proofs.Ytklmbgefdopifaa
