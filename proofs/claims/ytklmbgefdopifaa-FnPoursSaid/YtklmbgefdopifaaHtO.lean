/- The order in which pours are due: whatever the sort makes of a row of indices, it stays one of the same indices. -/
import Derived.Test.YtklmbgefdopifaaHtR
import Derived.Test.YtklmbgefdopifaaSrc2
import Derived.Deep.DeepCutAuto
namespace Go.Proofs.Ytklmbgefdopifaa
open Go.RowKit

/-- A row of the indices below n, in some order. -/
def PermR (n : Nat) (xs : List Int) : Prop := xs.Perm ((List.range n).map fun i : Nat => (i : Int))
theorem PermR.len {n : Nat} {xs : List Int} (h : PermR n xs) : xs.length = n := by
  have := h.length_eq
  simpa using this
theorem PermR.mem {n : Nat} {xs : List Int} (h : PermR n xs) {x : Int} (hx : x ∈ xs) : ∃ k : Nat, x = k ∧ k < n := by
  have q := h.mem_iff.1 hx
  rw [List.mem_map] at q
  obtain ⟨k, hk, rfl⟩ := q
  exact ⟨k, rfl, List.mem_range.1 hk⟩
theorem PermR.nodup {n : Nat} {xs : List Int} (h : PermR n xs) : xs.Nodup := by
  rw [h.nodup_iff]
  exact List.Pairwise.map _ (fun a b hab q => hab (Int.ofNat_inj.1 q)) List.nodup_range
theorem PermR.swap {n : Nat} {xs : List Int} {i j : Nat} (h : PermR n xs) (hi : i < xs.length) (hj : j < xs.length) : PermR n ((xs.set i xs[j]).set j xs[i]) := (List.set_set_perm hi hj).trans h
/-- What comparing two numbers gives. -/
def cmpI (a b : Int) : Int := if a < b then -1 else if b < a then 1 else 0
theorem cmpCompare (a b : Int) (w : World) : Calls Try.prog 72 #[.int .i64 a, .int .i64 b] w fun e w' => e = .returned (.int .i64 (cmpI a b)) ∧ w = w' := by
  have hn : ∀ (x : Int) (w : World), Calls Try.prog 96 #[.int .i64 x] w fun e w' => e = .returned (.bool false) ∧ w = w' := by
    intro x w
    go_enter Try.func96, Try.ntmps96
    go_wp2
    go_ret
    exact ⟨by simp, rfl⟩
  by_cases h1 : a < b
  · have e : Hid (cmpI a b = -1) := hide (by unfold cmpI; rw [if_pos h1])
    go_enter Try.func72, Try.ntmps72
    go_wp2_with (go_at_call 96; refine (hn _ _).mono ?_; rintro e w2 ⟨rfl, rfl⟩)
    go_ret
    exact ⟨ret_int e.out.symm, rfl⟩
  · by_cases h2 : b < a
    · have e : Hid (cmpI a b = 1) := hide (by unfold cmpI; rw [if_neg h1, if_pos h2])
      go_enter Try.func72, Try.ntmps72
      go_wp2_with (go_at_call 96; refine (hn _ _).mono ?_; rintro e w2 ⟨rfl, rfl⟩)
      go_ret
      exact ⟨ret_int e.out.symm, rfl⟩
    · have e : Hid (cmpI a b = 0) := hide (by unfold cmpI; rw [if_neg h1, if_neg h2])
      go_enter Try.func72, Try.ntmps72
      go_wp2_with (go_at_call 96; refine (hn _ _).mono ?_; rintro e w2 ⟨rfl, rfl⟩)
      go_ret
      exact ⟨ret_int e.out.symm, rfl⟩
/-- How two pours compare. -/
def dueC (ps : List PourR) (a b : Int) : Int := cmpI (Ht.pk ps a).due (Ht.pk ps b).due
set_option maxRecDepth 100000 in
theorem greedy1 (ps : List PourR) (A : Option Addr) (c q : Nat) (i j : Nat) (w : World) (h : SlAt encPour 4 w A ps) (hq : w.cell? ⟨q, 0, none⟩ = some (.slice A ps.length c)) (hi : i < ps.length) (hj : j < ps.length) :
    Calls Try.prog 71 #[.int .i64 i, .int .i64 j, .pointer (some ⟨q, 0, none⟩)] w fun e w' => e = .returned (.int .i64 (dueC ps i j)) ∧ Below w.heap.size w w' := by
  have hql : q < w.heap.size := World.block_lt_of_cell? w _ hq
  obtain ⟨b, off, rfl, hbl, hc⟩ := h i hi
  have c3 := hc 3 _ rfl
  obtain ⟨b2, off2, e2, hbl2, hd⟩ := h j hj
  injection e2 with e2
  injection e2 with e3 e4
  subst e3; subst e4
  have d3 := hd 3 _ rfl
  have hpi : Ht.pk ps i = ps[i] := by unfold Ht.pk; rw [Int.toNat_natCast, List.getD_eq_getElem?_getD, List.getElem?_eq_getElem hi]; rfl
  have hpj : Ht.pk ps j = ps[j] := by unfold Ht.pk; rw [Int.toNat_natCast, List.getD_eq_getElem?_getD, List.getElem?_eq_getElem hj]; rfl
  have e : Hid (dueC ps i j = cmpI ps[i].due ps[j].due) := hide (by unfold dueC; rw [hpi, hpj])
  clear hc hd hpi hpj h
  generalize ps[i].due = x at *
  generalize ps[j].due = y at *
  go_enter Try.func71, Try.ntmps71
  go_wp2_with fail
  refine wp_region_kept (by kernel_rfl) (by kernel_rfl) ?_
  intro gc gf gz
  repeat (go_big_quiet_step ((go_at_call 72; exact Calls.kept_same (cmpCompare _ _ _))))
  refine wpQuiet_nil ?_
  intro w1 hw'
  obtain ⟨⟨_, hb1⟩, rfl⟩ := hw'
  clear gc gf gz
  try dsimp only
  have fs1 := hb1.size
  try simp at fs1 hb1
  go_wp2_with fail
  go_ret
  exact ⟨ret_int e.out.symm, hb1⟩
set_option maxRecDepth 100000 in
set_option maxHeartbeats 2000000 in
theorem insertSort (B q : Nat) (ps : List PourR) (n : Nat) (A : Option Addr) (c : Nat) (xs : List Int) (w : World) (hO : OwnI w B (.slice A n c) xs) (hP : PermR n xs) (hn : n ≤ 12)
    (hcl : ∀ (W : World) (i j : Nat), Below B w W → i < n → j < n → Calls Try.prog 71 #[.int .i64 i, .int .i64 j, .pointer (some ⟨q, 0, none⟩)] W fun e w' => e = .returned (.int .i64 (dueC ps i j)) ∧ Below W.heap.size W w') (hBw : B ≤ w.heap.size) :
    Calls Try.prog 110 #[.slice A n c, .int .i64 0, .int .i64 n, .func (.func 71) #[] #[.pointer (some ⟨q, 0, none⟩)]] w fun e w' => e = .returned (.tuple #[]) ∧ ∃ ys, OwnI w' B (.slice A n c) ys ∧ PermR n ys ∧ Below B w w' := by
  have HO := hide hO
  have HP := hide hP
  have HCL := hide hcl
  clear hO hP hcl
  go_enter Try.func110, Try.ntmps110
  go_wp2_with fail
  go_loopw [8] (fun v wr => ∃ (i : Nat) (ys : List Int), v = .int .i64 i ∧ 1 ≤ i ∧ i ≤ 13 ∧ Hid (OwnI wr B (.slice A n c) ys) ∧ Hid (PermR n ys) ∧ Hid (Below B w wr)) (fun v _ => 13 - (intOf v).toNat)
  case atStart => exact ⟨1, xs, rfl, by omega, by omega, HO, HP, hide (Below.refl _ _)⟩
  case round =>
    clear HO HP
    obtain ⟨i, ys, rfl, hi1, hi2, HOo, HPo, HBo⟩ := hrel
    obtain ⟨wo, rfl⟩ : ∃ wo, wo = wr := ⟨_, rfl⟩
    by_cases hlt : i < n
    · go_wp2_with fail
      go_loopw [9] (fun v wr => ∃ (j : Nat) (zs : List Int), v = .int .i64 j ∧ j ≤ i ∧ Hid (OwnI wr B (.slice A n c) zs) ∧ Hid (PermR n zs) ∧ Hid (Below B w wr)) (fun v _ => (intOf v).toNat)
      case atStart => exact ⟨i, ys, rfl, Nat.le_refl _, HOo, HPo, HBo⟩
      case round =>
        clear HOo HPo HBo
        obtain ⟨j, zs, rfl, hji, HO, HP, HB⟩ := hrel
        have hlen := HP.out.len
        rcases j with _ | j
        · go_wp2_with fail
          refine wp_region_kept (by kernel_rfl) (by kernel_rfl) ?_
          intro gc gf gz
          repeat (go_big_quiet_step (fail))
          refine wpQuiet_nil ?_
          intro w1 hw'
          obtain ⟨⟨_, hb1⟩, rfl⟩ := hw'
          clear gc gf gz
          try dsimp only
          have fs1 := hb1.size
          try simp at fs1 hb1
          have HO1 := hide (HO.out.below hb1)
          have HB1 := hide (HB.out.trans (hb1.mono (Nat.le_trans hBw HB.out.size)))
          clear hb1 fs1 HO HB
          go_wp2_with fail
          go_roundw
          case rel => exact ⟨i + 1, zs, by go_num, by omega, by omega, HO1, HP, HB1⟩
          case measure => simp [intOf]; omega
        · have hgt : decide ((0 : Int) < ((j + 1 : Nat) : Int)) = true := by first | (simp; done) | (simp; omega)
          obtain ⟨g, rfl, hBg, hgl, e0, f0⟩ := own_get1 (f := Value.int .i64) (fun _ => rfl) HO.out (show j + 1 < zs.length by omega)
          obtain ⟨g', hg', -, -, e1, f1⟩ := own_get1 (f := Value.int .i64) (fun _ => rfl) HO.out (show j < zs.length by omega)
          obtain rfl : g = g' := by injection hg' with hg'; injection hg'
          clear hg'
          obtain ⟨x, hx, hxn⟩ := HP.out.mem (List.getElem_mem (show j + 1 < zs.length by omega))
          obtain ⟨y, hy, hyn⟩ := HP.out.mem (List.getElem_mem (show j < zs.length by omega))
          have hsw := HP.out.swap (show j + 1 < zs.length by omega) (show j < zs.length by omega)
          have HSW := hide hsw
          rw [hx] at e0
          rw [hy] at e1
          have HXY := hide (And.intro hx hy)
          clear hx hy hsw
          have hk : IntKind.i64.wrap (((j + 1 : Nat) : Int) - 1) = j := by rw [show ((j + 1 : Nat) : Int) - 1 = j by omega]; exact IntWalk.i64_in _ (by omega)
          have hcall := fun u : Kept wr => HCL.out u.w' x y (HB.out.trans (u.h.mono (Nat.le_trans hBw HB.out.size))) hxn hyn
          have HC := hide hcall
          clear hcall
          generalize hr : dueC ps x y = r at *
          by_cases hneg : r < 0
          · have hng : decide (r < 0) = true := by simp [hneg]
            clear hr
            go_wp2_with fail
            refine wp_region_kept (by kernel_rfl) (by kernel_rfl) ?_
            intro gc gf gz
            repeat (go_big_quiet_step ((go_at_call 71; exact Calls.kept (HC.out _))))
            refine wpQuiet_nil ?_
            intro w1 hw'
            obtain ⟨⟨_, hb1⟩, rfl⟩ := hw'
            clear gc gf gz
            try dsimp only
            have fs1 := hb1.size
            try simp at fs1 hb1
            have HO1 := hide (HO.out.below hb1)
            have HB1 := hide (HB.out.trans (hb1.mono (Nat.le_trans hBw HB.out.size)))
            have hgl1 : g < w1.heap.size := by omega
            obtain ⟨g', hg', -, -, e0', f0'⟩ := own_get1 (f := Value.int .i64) (fun _ => rfl) HO1.out (show j + 1 < zs.length by omega)
            obtain rfl : g = g' := by injection hg' with hg'; injection hg'
            obtain ⟨g', hg2, -, -, e1', f1'⟩ := own_get1 (f := Value.int .i64) (fun _ => rfl) HO1.out (show j < zs.length by omega)
            obtain rfl : g = g' := by injection hg2 with hg2; injection hg2
            rw [HXY.out.1] at e0'
            rw [HXY.out.2] at e1'
            clear hg' hg2 hb1 fs1 HO HB HC e0 e1 f0 f1 hneg hng
            go_upto_region 6 with fail
            have hne : j + 1 ≠ j := by omega
            have HSX := hide (show PermR n ((zs.set (j + 1) (y : Int)).set j (x : Int)) from by have q := HSW.out; rw [HXY.out.1, HXY.out.2] at q; exact q)
            clear HSW
            go_region
            all_goals
              go_wp2_with fail
              go_roundw
              case rel => exact ⟨j, _, by go_num, by omega, hide (by first | exact own_set1 (f := Value.int .i64) (fun _ => rfl) (own_set1 (f := Value.int .i64) (fun _ => rfl) (HO1.out.below (by repeat (first | with_reducible exact Below.refl _ _ | with_reducible assumption | (with_reducible refine Below.drew ?_) | (with_reducible refine below_drewN ?_ _) | ((with_reducible refine Below.alloc ?_ ?_ _); rotate_left; (focus (first | omega | (simp; omega) | simp))) | ((with_reducible refine Below.setCell ?_ ?_ _); rotate_left; (focus (first | omega | (simp; omega) | simp))) | (refine Below.trans ?_ (Below.mono (by assumption) (by first | omega | (simp; omega) | simp)))))) (y : Int)) (x : Int) | (rw [List.set_comm _ _ hne]; exact own_set1 (f := Value.int .i64) (fun _ => rfl) (own_set1 (f := Value.int .i64) (fun _ => rfl) (HO1.out.below (by repeat (first | with_reducible exact Below.refl _ _ | with_reducible assumption | (with_reducible refine Below.drew ?_) | (with_reducible refine below_drewN ?_ _) | ((with_reducible refine Below.alloc ?_ ?_ _); rotate_left; (focus (first | omega | (simp; omega) | simp))) | ((with_reducible refine Below.setCell ?_ ?_ _); rotate_left; (focus (first | omega | (simp; omega) | simp))) | (refine Below.trans ?_ (Below.mono (by assumption) (by first | omega | (simp; omega) | simp)))))) (x : Int)) (y : Int))), HSX, hide (by have hb := HB1.out; exact (by repeat (first | with_reducible exact Below.refl _ _ | with_reducible assumption | (with_reducible refine Below.drew ?_) | (with_reducible refine below_drewN ?_ _) | ((with_reducible refine Below.alloc ?_ ?_ _); rotate_left; (focus (first | omega | (simp; omega) | simp))) | ((with_reducible refine Below.setCell ?_ ?_ _); rotate_left; (focus (first | omega | (simp; omega) | simp))) | (refine Below.trans ?_ (Below.mono (by assumption) (by first | omega | (simp; omega) | simp))))))⟩
              case measure => simp [intOf]
          · have hng : decide (r < 0) = false := by simp; omega
            clear hr
            go_wp2_with fail
            refine wp_region_kept (by kernel_rfl) (by kernel_rfl) ?_
            intro gc gf gz
            repeat (go_big_quiet_step ((go_at_call 71; exact Calls.kept (HC.out _))))
            refine wpQuiet_nil ?_
            intro w1 hw'
            obtain ⟨⟨_, hb1⟩, rfl⟩ := hw'
            clear gc gf gz
            try dsimp only
            have fs1 := hb1.size
            try simp at fs1 hb1
            have HO1 := hide (HO.out.below hb1)
            have HB1 := hide (HB.out.trans (hb1.mono (Nat.le_trans hBw HB.out.size)))
            clear hb1 fs1 HO HB HC e0 e1 f0 f1 hneg
            go_wp2_with fail
            go_roundw
            case rel => exact ⟨i + 1, zs, by go_num, by omega, by omega, HO1, HP, HB1⟩
            case measure => simp [intOf]; omega
    · go_wp2_with fail
      go_end0
      exact ⟨rfl, ys, HOo.out, HPo.out, HBo.out⟩
set_option maxRecDepth 100000 in
theorem stableSort (B q : Nat) (ps : List PourR) (n : Nat) (A : Option Addr) (c : Nat) (xs : List Int) (w : World) (hO : OwnI w B (.slice A n c) xs) (hP : PermR n xs) (hn : n ≤ 12)
    (hcl : ∀ (W : World) (i j : Nat), Below B w W → i < n → j < n → Calls Try.prog 71 #[.int .i64 i, .int .i64 j, .pointer (some ⟨q, 0, none⟩)] W fun e w' => e = .returned (.int .i64 (dueC ps i j)) ∧ Below W.heap.size W w') (hBw : B ≤ w.heap.size) :
    Calls Try.prog 95 #[.slice A n c, .int .i64 n, .func (.func 71) #[] #[.pointer (some ⟨q, 0, none⟩)]] w fun e w' => e = .returned (.tuple #[]) ∧ ∃ ys, OwnI w' B (.slice A n c) ys ∧ PermR n ys ∧ Below B w w' := by
  have hs := insertSort B q ps n A c xs w hO hP hn hcl hBw
  have HS := hide hs
  clear hO hP hcl hs
  go_enter Try.func95, Try.ntmps95
  go_wp2_with fail
  go_loopw [8, 7] (fun v a wr => v = .int .i64 20 ∧ a = .int .i64 0 ∧ wr = w) (fun _ _ _ => 0)
  case atStart => exact ⟨rfl, rfl, by first | rfl | trivial⟩
  case round =>
    obtain ⟨rfl, rfl, rfl⟩ := hrel
    have hq : ¬ (20 : Int) ≤ n := by omega
    go_wp2_with fail
    refine HS.out.mono ?_
    rintro e w1 ⟨rfl, ys, ho, hp, hb⟩
    have HO := hide ho
    have HP := hide hp
    have HB := hide hb
    clear ho hp hb HS
    have hq2 : ¬ (20 : Int) < n := by omega
    go_wp2_with fail
    go_loopw [6] (fun v wr => v = .int .i64 20 ∧ wr = w1) (fun _ _ => 0)
    case atStart => exact ⟨rfl, by first | rfl | trivial⟩
    case round =>
      obtain ⟨rfl, rfl⟩ := hrel
      go_wp2_with fail
      go_end0
      exact ⟨rfl, ys, HO.out, HP.out, HB.out⟩
set_option maxRecDepth 100000 in
theorem sortStable (B q : Nat) (ps : List PourR) (n : Nat) (A : Option Addr) (c : Nat) (xs : List Int) (w : World) (hO : OwnI w B (.slice A n c) xs) (hP : PermR n xs) (hn : n ≤ 12)
    (hcl : ∀ (W : World) (i j : Nat), Below B w W → i < n → j < n → Calls Try.prog 71 #[.int .i64 i, .int .i64 j, .pointer (some ⟨q, 0, none⟩)] W fun e w' => e = .returned (.int .i64 (dueC ps i j)) ∧ Below W.heap.size W w') (hBw : B ≤ w.heap.size) :
    Calls Try.prog 70 #[.slice A n c, .func (.func 71) #[] #[.pointer (some ⟨q, 0, none⟩)]] w fun e w' => e = .returned (.tuple #[]) ∧ ∃ ys, OwnI w' B (.slice A n c) ys ∧ PermR n ys ∧ Below B w w' := by
  have hs := stableSort B q ps n A c xs w hO hP hn hcl hBw
  have HS := hide hs
  clear hO hP hcl hs
  go_enter Try.func70, Try.ntmps70
  go_wp2_with fail
  refine HS.out.mono ?_
  rintro e w1 ⟨rfl, ys, ho, hp, hb⟩
  have HO := hide ho
  have HP := hide hp
  have HB := hide hb
  clear ho hp hb HS
  go_wp2_with fail
  go_end0
  exact ⟨rfl, ys, HO.out, HP.out, HB.out⟩
end Go.Proofs.Ytklmbgefdopifaa
