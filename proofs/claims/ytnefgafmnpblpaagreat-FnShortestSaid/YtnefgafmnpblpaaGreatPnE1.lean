/- Contracts: draws of sounds. -/
import Derived.Test.YtnefgafmnpblpaaGreatPnI9
import Derived.Deep.RegionLaw
namespace Go.Proofs.YtnefgafmnpblpaaGreat
open Go.RowKit Pn

/-- A frequency that is raised, as a result. -/
def RaiseRes (w : World) (e : Ending) (w' : World) : Prop := ∃ (r : Int) (ok : Bool), e = .returned (.tuple #[.int .i64 r, .bool ok]) ∧ 0 ≤ r ∧ r ≤ 20000000 ∧ w = w'
set_option maxRecDepth 100000 in
set_option maxHeartbeats 1000000 in
theorem l02Raise_is (f t : Int) (w : World) (h0 : 1 ≤ f) (h1 : f ≤ 100000000) (t0 : -12000 ≤ t) (t1 : t ≤ 12000) :
    Calls Tryz.prog 177 #[.int .i64 f, .int .i64 t] w (RaiseRes w) := by
  obtain ⟨a, ha⟩ : ∃ a, a = lgI f := ⟨_, rfl⟩
  have a0 : 0 ≤ a := by rw [ha]; exact lgI_nonneg f
  have a1 : a < 520093696 := by rw [ha]; have := lgI_lt (n := f) (by omega) (by omega); omega
  have HF := hide (show ∀ W, Calls Tryz.prog 188 #[.int .i64 f] W fun e w' => e = .returned (.int .i64 a) ∧ W = w' from fun W => by rw [ha]; exact l02Fine_is f W h0 h1)
  obtain ⟨lo, hlo⟩ : ∃ a, a = lgI 10000 := ⟨_, rfl⟩
  obtain ⟨hi, hhi⟩ : ∃ a, a = lgI 20000000 := ⟨_, rfl⟩
  have HLO := hide (show ∀ W, Calls Tryz.prog 188 #[.int .i64 10000] W fun e w' => e = .returned (.int .i64 lo) ∧ W = w' from fun W => by rw [hlo]; exact l02Fine_is 10000 W (by omega) (by omega))
  have HHI := hide (show ∀ W, Calls Tryz.prog 188 #[.int .i64 20000000] W fun e w' => e = .returned (.int .i64 hi) ∧ W = w' from fun W => by rw [hhi]; exact l02Fine_is 20000000 W (by omega) (by omega))
  have l0 : 0 ≤ lo := by rw [hlo]; exact lgI_nonneg _
  have l1 : lo < 520093696 := by rw [hlo]; exact lgI_lt (by omega) (by omega)
  clear ha hlo hhi
  have q0 : -20000000 ≤ (t * 16777216).tdiv 12000 ∧ (t * 16777216).tdiv 12000 ≤ 20000000 := by
    rcases Int.le_total 0 t with h | h
    · rw [Int.tdiv_eq_ediv_of_nonneg (by omega)]; omega
    · have e : (t * 16777216).tdiv 12000 = -((-(t * 16777216)) / 12000) := by
        have e1 := Int.neg_tdiv (a := -(t * 16777216)) (b := 12000)
        rw [Int.neg_neg] at e1
        rw [e1, Int.tdiv_eq_ediv_of_nonneg (by omega)]
      rw [e]; omega
  have k1 : IntKind.i64.wrap ((t * 16777216).tdiv 12000 * 12000) = (t * 16777216).tdiv 12000 * 12000 := IntWalk.i64_in _ (by omega)
  have k2 : IntKind.i64.wrap ((t * 16777216).tdiv 12000 + 1) = (t * 16777216).tdiv 12000 + 1 := IntWalk.i64_in _ (by omega)
  have k3 : IntKind.i64.wrap (a + (t * 16777216).tdiv 12000) = a + (t * 16777216).tdiv 12000 := IntWalk.i64_in _ (by omega)
  have k4 : IntKind.i64.wrap (a + ((t * 16777216).tdiv 12000 + 1)) = a + ((t * 16777216).tdiv 12000 + 1) := IntWalk.i64_in _ (by omega)
  have HQ := hide q0
  clear q0
  go_enter Tryz.func177, Tryz.ntmps177
  go_wp2_with fail
  all_goals
    refine (HF.out _).mono ?_
    rintro e w1 ⟨rfl, rfl⟩
    go_wp2_with fail
    refine (HLO.out _).mono ?_
    rintro e w1 ⟨rfl, rfl⟩
  · generalize a + ((t * 16777216).tdiv 12000 + 1) = wt at *
    clear k1 k2 k3 k4
    by_cases h : wt < lo
    · go_wp2_with fail
      go_ret2
      exact ⟨0, false, rfl, by omega, by omega, rfl⟩
    · have h' : decide (wt < lo) = false := by simpa using h
      go_wp2_with fail
      refine (HHI.out _).mono ?_
      rintro e w1 ⟨rfl, rfl⟩
      by_cases h2 : hi < wt
      · go_wp2_with fail
        go_ret2
        exact ⟨0, false, rfl, by omega, by omega, rfl⟩
      · have h2' : decide (hi < wt) = false := by simpa using h2
        go_wp2_with fail
        clear h h' h2 h2' HLO HHI HF HQ
        go_loopw [8, 9] (fun v u wr => ∃ x y : Int, v = .int .i64 x ∧ u = .int .i64 y ∧ 10000 ≤ x ∧ x ≤ y ∧ y ≤ 20000000 ∧ Hid (w = wr)) (fun v u _ => (intOf u - intOf v).toNat)
        case atStart => exact ⟨10000, 20000000, rfl, rfl, by omega, by omega, by omega, hide rfl⟩
        case round =>
          obtain ⟨x, y, rfl, rfl, hx, hxy, hy, HW⟩ := hrel
          by_cases hlt : x < y
          · have hm : (x + y).tdiv 2 = (x + y) / 2 := Int.tdiv_eq_ediv_of_nonneg (by omega)
            have kw : IntKind.i64.wrap (x + y) = x + y := IntWalk.i64_in _ (by omega)
            obtain ⟨m, hmm⟩ : ∃ m, m = (x + y) / 2 := ⟨_, rfl⟩
            have m0 : x ≤ m := by omega
            have m1 : m < y := by omega
            rw [← hmm] at hm
            have HM := hide (fun W => l02Fine_is m W (by omega) (by omega))
            have kw2 : IntKind.i64.wrap (m + 1) = m + 1 := IntWalk.i64_in _ (by omega)
            clear hmm
            obtain ⟨lm, hlm⟩ : ∃ lm, lm = lgI m := ⟨_, rfl⟩
            rw [← hlm] at HM
            clear hlm
            by_cases h3 : wt ≤ lm
            · go_wp2_with fail
              refine (HM.out _).mono ?_
              rintro e w1 ⟨rfl, rfl⟩
              go_wp2_with fail
              go_roundw
              case rel => exact ⟨x, m, rfl, rfl, by omega, by omega, by omega, HW⟩
              case measure => simp [intOf]; omega
            · go_wp2_with fail
              refine (HM.out _).mono ?_
              rintro e w1 ⟨rfl, rfl⟩
              go_wp2_with fail
              go_roundw
              case rel => exact ⟨m + 1, y, rfl, rfl, by omega, by omega, by omega, HW⟩
              case measure => simp [intOf]; omega
          · go_wp2_with fail
            go_ret2
            exact ⟨x, true, rfl, by omega, by omega, HW.out⟩
  all_goals
    generalize a + (t * 16777216).tdiv 12000 = wt at *
    clear k1 k2 k3 k4
    by_cases h : wt < lo
    · go_wp2_with fail
      go_ret2
      exact ⟨0, false, rfl, by omega, by omega, rfl⟩
    · have h' : decide (wt < lo) = false := by simpa using h
      go_wp2_with fail
      refine (HHI.out _).mono ?_
      rintro e w1 ⟨rfl, rfl⟩
      by_cases h2 : hi < wt
      · go_wp2_with fail
        go_ret2
        exact ⟨0, false, rfl, by omega, by omega, rfl⟩
      · have h2' : decide (hi < wt) = false := by simpa using h2
        go_wp2_with fail
        clear h h' h2 h2' HLO HHI HF HQ
        go_loopw [8, 9] (fun v u wr => ∃ x y : Int, v = .int .i64 x ∧ u = .int .i64 y ∧ 10000 ≤ x ∧ x ≤ y ∧ y ≤ 20000000 ∧ Hid (w = wr)) (fun v u _ => (intOf u - intOf v).toNat)
        case atStart => exact ⟨10000, 20000000, rfl, rfl, by omega, by omega, by omega, hide rfl⟩
        case round =>
          obtain ⟨x, y, rfl, rfl, hx, hxy, hy, HW⟩ := hrel
          by_cases hlt : x < y
          · have hm : (x + y).tdiv 2 = (x + y) / 2 := Int.tdiv_eq_ediv_of_nonneg (by omega)
            have kw : IntKind.i64.wrap (x + y) = x + y := IntWalk.i64_in _ (by omega)
            obtain ⟨m, hmm⟩ : ∃ m, m = (x + y) / 2 := ⟨_, rfl⟩
            have m0 : x ≤ m := by omega
            have m1 : m < y := by omega
            rw [← hmm] at hm
            have HM := hide (fun W => l02Fine_is m W (by omega) (by omega))
            have kw2 : IntKind.i64.wrap (m + 1) = m + 1 := IntWalk.i64_in _ (by omega)
            clear hmm
            obtain ⟨lm, hlm⟩ : ∃ lm, lm = lgI m := ⟨_, rfl⟩
            rw [← hlm] at HM
            clear hlm
            by_cases h3 : wt ≤ lm
            · go_wp2_with fail
              refine (HM.out _).mono ?_
              rintro e w1 ⟨rfl, rfl⟩
              go_wp2_with fail
              go_roundw
              case rel => exact ⟨x, m, rfl, rfl, by omega, by omega, by omega, HW⟩
              case measure => simp [intOf]; omega
            · go_wp2_with fail
              refine (HM.out _).mono ?_
              rintro e w1 ⟨rfl, rfl⟩
              go_wp2_with fail
              go_roundw
              case rel => exact ⟨m + 1, y, rfl, rfl, by omega, by omega, by omega, HW⟩
              case measure => simp [intOf]; omega
          · go_wp2_with fail
            go_ret2
            exact ⟨x, true, rfl, by omega, by omega, HW.out⟩
theorem l04Offsets_is (k : Int) (w : World) : Calls Tryz.prog 141 #[.int .i64 k] w fun e w' => ∃ A c xs, e = .returned (.slice A 5 c) ∧ xs.length = 5 ∧ (∀ j, -12000 ≤ ig xs j ∧ ig xs j ≤ 12000) ∧ OwnI w' w.heap.size (.slice A 5 c) xs ∧ Below w.heap.size w w' := by
  have H : ∀ xs : List Int, xs = [-12000, 0, 4000, 7000, 12000] ∨ xs = [-12000, 0, 3000, 7000, 12000] → xs.length = 5 ∧ ∀ j, -12000 ≤ ig xs j ∧ ig xs j ≤ 12000 := fun xs h => by
    rcases h with rfl | rfl
    · exact ⟨rfl, ig_all (fun k hk => by match k, hk with | 0, _ => simp [ig] | 1, _ => simp [ig] | 2, _ => simp [ig] | 3, _ => simp [ig] | 4, _ => simp [ig]) (by omega) (by omega)⟩
    · exact ⟨rfl, ig_all (fun k hk => by match k, hk with | 0, _ => simp [ig] | 1, _ => simp [ig] | 2, _ => simp [ig] | 3, _ => simp [ig] | 4, _ => simp [ig]) (by omega) (by omega)⟩
  have HH := hide H
  clear H
  by_cases h : k = 2
  · have hk : (k == 2) = true := by simpa using h
    clear h
    go_enter Tryz.func141, Tryz.ntmps141
    go_wp2_with fail
    go_ret
    exact ⟨_, _, [-12000, 0, 4000, 7000, 12000], rfl, rfl, (HH.out _ (.inl rfl)).2, own5 (Nat.le_refl _) rfl, (Below.refl _ _).alloc (Nat.le_refl _) _⟩
  · have hk : (k == 2) = false := by simpa using h
    clear h
    go_enter Tryz.func141, Tryz.ntmps141
    go_wp2_with fail
    go_ret
    exact ⟨_, _, [-12000, 0, 3000, 7000, 12000], rfl, rfl, (HH.out _ (.inr rfl)).2, own5 (Nat.le_refl _) rfl, (Below.refl _ _).alloc (Nat.le_refl _) _⟩
/-- Frequencies within some bounds, as a sound and whether there is one. -/
def RaisedRes (w : World) (e : Ending) (w' : World) : Prop := ∃ (t0 t1 t2 t3 t4 : Int) (ok : Bool), e = .returned (.tuple #[.agg #[.int .i64 t0, .int .i64 t1, .int .i64 t2, .int .i64 t3, .int .i64 t4], .bool ok]) ∧ (∀ j, 0 ≤ ig [t0, t1, t2, t3, t4] j ∧ ig [t0, t1, t2, t3, t4] j ≤ 20000000) ∧ Below w.heap.size w w'
theorem five_bd {t0 t1 t2 t3 t4 lo hi : Int} (l0 : lo ≤ 0) (l1 : 0 ≤ hi) (h0 : lo ≤ t0 ∧ t0 ≤ hi) (h1 : lo ≤ t1 ∧ t1 ≤ hi) (h2 : lo ≤ t2 ∧ t2 ≤ hi) (h3 : lo ≤ t3 ∧ t3 ≤ hi) (h4 : lo ≤ t4 ∧ t4 ≤ hi) : ∀ j, lo ≤ ig [t0, t1, t2, t3, t4] j ∧ ig [t0, t1, t2, t3, t4] j ≤ hi :=
  ig_all (fun k hk => by
    match k, hk with
    | 0, _ => exact h0
    | 1, _ => exact h1
    | 2, _ => exact h2
    | 3, _ => exact h3
    | 4, _ => exact h4) l0 l1
set_option maxRecDepth 100000 in
set_option maxHeartbeats 1000000 in
theorem l04Raised_is (A A' : Option Addr) (c c' : Nat) (xs ys : List Int) (w : World) (h : SlAt encI 1 w A xs) (h' : SlAt encI 1 w A' ys) (hx : xs.length = 5) (hy : ys.length = 5) (HXB : Hid (∀ j, j < 5 → 1 ≤ ig xs j ∧ ig xs j ≤ 100000000)) (HYB : Hid (∀ j, -12000 ≤ ig ys j ∧ ig ys j ≤ 12000)) :
    Calls Tryz.prog 140 #[.slice A 5 c, .slice A' 5 c'] w (RaisedRes w) := by
  obtain ⟨bx, ox, rfl, hbx, hcx⟩ := h.getA (by omega)
  obtain ⟨by_, oy, rfl, hby, hcy⟩ := h'.getA (by omega)
  rw [hx] at hcx
  rw [hy] at hcy
  obtain ⟨w1, hw1⟩ : ∃ w1, w1 = w.alloc (.cells #[.int .i64 0, .int .i64 0, .int .i64 0, .int .i64 0, .int .i64 0] 32) := ⟨_, rfl⟩
  have hb1 : Below w.heap.size w w1 := by rw [hw1]; exact (by repeat (first | with_reducible exact Below.refl _ _ | with_reducible assumption | (with_reducible refine Below.drew ?_) | (with_reducible refine below_drewN ?_ _) | ((with_reducible refine Below.alloc ?_ ?_ _); rotate_left; (focus (first | omega | (simp; omega) | simp))) | ((with_reducible refine Below.setCell ?_ ?_ _); rotate_left; (focus (first | omega | (simp; omega) | simp))) | (refine Below.trans ?_ (Below.mono (by assumption) (by first | omega | (simp; omega) | simp)))))
  have s0 : w1.heap[w.heap.size]? = some (.cells #[.int .i64 0, .int .i64 0, .int .i64 0, .int .i64 0, .int .i64 0] 32 (0, 0)) := by rw [hw1]; exact heap_alloc_new w _
  have HB1 := hide hb1
  have hlt := heap_lt s0
  have HST := hide (fun W (hb : Below w1.heap.size w1 W) => (hb.block _ hlt).trans s0)
  have PX : ∀ W, Below w1.heap.size w1 W → ∀ j, j < 5 → W.cell? ⟨bx, ox + j, none⟩ = some (.int .i64 (ig xs j)) := fun W hb j hj => (hb.cell (p := ⟨bx, ox + j, none⟩) (Nat.lt_of_lt_of_le hbx hb1.size)).trans ((hb1.cell (p := ⟨bx, ox + j, none⟩) hbx).trans (hcx j hj))
  have PY : ∀ W, Below w1.heap.size w1 W → ∀ j, j < 5 → W.cell? ⟨by_, oy + j, none⟩ = some (.int .i64 (ig ys j)) := fun W hb j hj => (hb.cell (p := ⟨by_, oy + j, none⟩) (Nat.lt_of_lt_of_le hby hb1.size)).trans ((hb1.cell (p := ⟨by_, oy + j, none⟩) hby).trans (hcy j hj))
  have HPX := hide PX
  have HPY := hide PY
  have HA0 := hide ((Below.refl w1.heap.size w1).alloc (Nat.le_refl _) (.cells #[] 2))
  have hz1 : w1.heap.size = w.heap.size + 1 := by rw [hw1]; simp
  have H00 := hide (show OwnI (w1.alloc (.cells #[] 2)) w1.heap.size (.slice (some ⟨w.heap.size + 1, 0, none⟩) 0 0) [] from by
    have h := own_made (enc := encI) (sz := 1) (T := 2) w1 rfl (Nat.le_refl w1.heap.size)
    rw [← hz1]
    exact h)
  clear h h' hb1 s0 hcx hcy hbx hby PX PY hx hy hz1
  go_enter Tryz.func140, Tryz.ntmps140
  go_wp2_with fail
  rw [← hw1]
  clear hw1
  generalize w1.alloc (.cells #[] 2) = w2 at *
  go_loopw [7, 6] (fun v o wr => ∃ (k : Nat) (A : Option Addr) (c : Nat) (os : List Int), v = .int .i64 k ∧ o = .slice A os.length c ∧ k ≤ 5 ∧ os.length = k ∧ Hid (∀ j, 0 ≤ ig os j ∧ ig os j ≤ 20000000) ∧ Hid (OwnI wr w1.heap.size (.slice A os.length c) os) ∧ Hid (Below w1.heap.size w1 wr)) (fun v _ _ => 5 - (intOf v).toNat)
  case atStart => exact ⟨0, _, _, [], rfl, rfl, by omega, rfl, hide (fun j => by simp [ig]), H00, HA0⟩
  case round =>
    obtain ⟨k, A2, c2, os, rfl, rfl, hk, ho, HOB, HO, HB⟩ := hrel
    have HLO := hide ho
    have hz := HB.out.size
    by_cases hlt : k < 5
    · obtain ⟨x0, x1⟩ := HXB.out k hlt
      obtain ⟨y0, y1⟩ := HYB.out k
      have PX : ∀ W, Below w1.heap.size w1 W → W.cell? ⟨bx, ox + k, none⟩ = some (.int .i64 (ig xs k)) := fun W hb => HPX.out W hb k hlt
      have PY : ∀ W, Below w1.heap.size w1 W → W.cell? ⟨by_, oy + k, none⟩ = some (.int .i64 (ig ys k)) := fun W hb => HPY.out W hb k hlt
      have hki : (k : Int) < 5 := by omega
      have hk0 : (0 : Int) ≤ k := by omega
      generalize ig xs k = x at *
      generalize ig ys k = y at *
      have HR := hide (fun W => l02Raise_is x y W x0 x1 y0 y1)
      clear x0 x1 y0 y1 ho
      go_wp2_with fail
      refine wp_region_noPanic ?_
      refine wp_region_held_drew (S := (fun w' => Below w1.heap.size w1 w' ∧ OwnI w' w1.heap.size (.slice A2 os.length c2) os)) (by kernel_rfl) (⟨HB.out.drew, HO.out⟩) (fun hHeld => ?_)
      refine wpAnyH_take (i := 0) (oi := ?o0_1) (v := ?v0_1) ?hi0_1 ?hs0_1 ?hf0_1 ?hr0_1 (fun _ _ _ h => h) ?hy0_1 (by assumption) ?hh0_1
      case hi0_1 => ((simp only [List.getElem?_toArray, List.getElem?_cons_zero]); rfl)
      case hs0_1 => kernel_rfl
      case hf0_1 => kernel_rfl
      case hr0_1 => kernel_rfl
      case hy0_1 => exact Or.inl ⟨by rfl, by (intro wq hSw; (try dsimp only at hSw); go_simp; (try with_reducible rfl))⟩
      try simp only [Act.put, List.setIfInBounds_toArray, List.set_cons_zero, List.set_cons_succ]
      refine wpAnyH_take (i := 1) (oi := ?o1_2) (v := ?v1_2) ?hi1_2 ?hs1_2 ?hf1_2 ?hr1_2 (fun _ _ _ h => h) ?hy1_2 (by assumption) ?hh1_2
      case hi1_2 => ((simp only [List.getElem?_toArray, List.getElem?_cons_succ, List.getElem?_cons_zero]); rfl)
      case hs1_2 => kernel_rfl
      case hf1_2 => kernel_rfl
      case hr1_2 => kernel_rfl
      case hy1_2 => exact Or.inl ⟨by rfl, by (intro wq hSw; (try dsimp only at hSw); go_simp; (try with_reducible rfl))⟩
      try simp only [Act.put, List.setIfInBounds_toArray, List.set_cons_zero, List.set_cons_succ]
      refine wpAnyH_take (i := 2) (oi := ?o2_3) (v := ?v2_3) ?hi2_3 ?hs2_3 ?hf2_3 ?hr2_3 (fun _ _ _ h => h) ?hy2_3 (by assumption) ?hh2_3
      case hi2_3 => ((simp only [List.getElem?_toArray, List.getElem?_cons_succ, List.getElem?_cons_zero]); rfl)
      case hs2_3 => kernel_rfl
      case hf2_3 => kernel_rfl
      case hr2_3 => kernel_rfl
      case hy2_3 => exact Or.inl ⟨by rfl, by (intro wq hSw; (try dsimp only at hSw); go_simp; (try with_reducible rfl))⟩
      try simp only [Act.put, List.setIfInBounds_toArray, List.set_cons_zero, List.set_cons_succ]
      refine wpAnyH_take (i := 3) (oi := ?o3_4) (v := ?v3_4) ?hi3_4 ?hs3_4 ?hf3_4 ?hr3_4 (fun _ _ _ h => h) ?hy3_4 (by assumption) ?hh3_4
      case hi3_4 => ((simp only [List.getElem?_toArray, List.getElem?_cons_succ, List.getElem?_cons_zero]); rfl)
      case hs3_4 => kernel_rfl
      case hf3_4 => kernel_rfl
      case hr3_4 => kernel_rfl
      case hy3_4 => exact Or.inl ⟨by rfl, by (intro wq hSw; (try dsimp only at hSw); go_simp; (try with_reducible rfl))⟩
      try simp only [Act.put, List.setIfInBounds_toArray, List.set_cons_zero, List.set_cons_succ]
      refine wpAnyH_take (i := 4) (oi := ?o4_5) (v := ?v4_5) ?hi4_5 ?hs4_5 ?hf4_5 ?hr4_5 (fun _ _ _ h => h) ?hy4_5 (by assumption) ?hh4_5
      case hi4_5 => ((simp only [List.getElem?_toArray, List.getElem?_cons_succ, List.getElem?_cons_zero]); rfl)
      case hs4_5 => kernel_rfl
      case hf4_5 => kernel_rfl
      case hr4_5 => kernel_rfl
      case hy4_5 => exact Or.inl ⟨by rfl, by (intro wq hSw; (try dsimp only at hSw); go_simp; (try with_reducible rfl))⟩
      try simp only [Act.put, List.setIfInBounds_toArray, List.set_cons_zero, List.set_cons_succ]
      refine wpAnyH_take (i := 5) (oi := ?o5_6) (v := ?v5_6) ?hi5_6 ?hs5_6 ?hf5_6 ?hr5_6 (fun _ _ _ h => h) ?hy5_6 (by assumption) ?hh5_6
      case hi5_6 => ((simp only [List.getElem?_toArray, List.getElem?_cons_succ, List.getElem?_cons_zero]); rfl)
      case hs5_6 => kernel_rfl
      case hf5_6 => kernel_rfl
      case hr5_6 => kernel_rfl
      case hy5_6 => exact Or.inl ⟨by rfl, by (intro wq hSw; (try dsimp only at hSw); go_simp; (try with_reducible rfl))⟩
      try simp only [Act.put, List.setIfInBounds_toArray, List.set_cons_zero, List.set_cons_succ]
      refine wpAnyH_take (i := 6) (oi := ?o6_7) (v := ?v6_7) ?hi6_7 ?hs6_7 ?hf6_7 ?hr6_7 (fun _ _ _ h => h) ?hy6_7 (by assumption) ?hh6_7
      case hi6_7 => ((simp only [List.getElem?_toArray, List.getElem?_cons_succ, List.getElem?_cons_zero]); rfl)
      case hs6_7 => kernel_rfl
      case hf6_7 => kernel_rfl
      case hr6_7 => kernel_rfl
      case hy6_7 => exact Or.inl ⟨by rfl, by (intro wq hSw; (try dsimp only at hSw); go_simp; (try with_reducible rfl))⟩
      try simp only [Act.put, List.setIfInBounds_toArray, List.set_cons_zero, List.set_cons_succ]
      refine wpAnyH_take (i := 7) (oi := ?o7_8) (v := ?v7_8) ?hi7_8 ?hs7_8 ?hf7_8 ?hr7_8 (fun _ _ _ h => h) ?hy7_8 (by assumption) ?hh7_8
      case hi7_8 => ((simp only [List.getElem?_toArray, List.getElem?_cons_succ, List.getElem?_cons_zero]); rfl)
      case hs7_8 => kernel_rfl
      case hf7_8 => kernel_rfl
      case hr7_8 => kernel_rfl
      case hy7_8 => exact Or.inl ⟨by rfl, by (intro wq hSw; (try dsimp only at hSw); go_simp; (try with_reducible rfl))⟩
      try simp only [Act.put, List.setIfInBounds_toArray, List.set_cons_zero, List.set_cons_succ]
      refine wpAnyH_ready (rs := [8]) (by kernel_rfl) (by simp) ?_
      refine AllReadyH.cons (o := ?o8_9) ?hi8_9 (fun K hK => ?hh8_9) AllReadyH.nil
      case hi8_9 => ((simp only [List.getElem?_toArray, List.getElem?_cons_succ, List.getElem?_cons_zero]); rfl)
      go_simp
      (go_at_call 177; refine (HR.out _).mono ?_; rintro e w5 ⟨r, ok, rfl, r0, r1, rfl⟩)
      (try dsimp only)
      refine hK.out _ _ (hHeld) (fun hHeld2 => ?_)
      clear hK K hHeld
      have hHeld := hHeld2
      clear hHeld2
      try simp only [Act.put, List.setIfInBounds_toArray, List.set_cons_zero, List.set_cons_succ]
      refine wpAnyH_take (i := 9) (oi := ?o9_10) (v := ?v9_10) ?hi9_10 ?hs9_10 ?hf9_10 ?hr9_10 (fun _ _ _ h => h) ?hy9_10 (by assumption) ?hh9_10
      case hi9_10 => ((simp only [List.getElem?_toArray, List.getElem?_cons_succ, List.getElem?_cons_zero]); rfl)
      case hs9_10 => kernel_rfl
      case hf9_10 => kernel_rfl
      case hr9_10 => kernel_rfl
      case hy9_10 => exact Or.inl ⟨by rfl, by (intro wq hSw; (try dsimp only at hSw); go_simp; (try with_reducible rfl))⟩
      try simp only [Act.put, List.setIfInBounds_toArray, List.set_cons_zero, List.set_cons_succ]
      refine wpAnyH_take (i := 10) (oi := ?o10_11) (v := ?v10_11) ?hi10_11 ?hs10_11 ?hf10_11 ?hr10_11 (fun _ _ _ h => h) ?hy10_11 (by assumption) ?hh10_11
      case hi10_11 => ((simp only [List.getElem?_toArray, List.getElem?_cons_succ, List.getElem?_cons_zero]); rfl)
      case hs10_11 => kernel_rfl
      case hf10_11 => kernel_rfl
      case hr10_11 => kernel_rfl
      case hy10_11 => exact Or.inl ⟨by rfl, by (intro wq hSw; (try dsimp only at hSw); go_simp; (try with_reducible rfl))⟩
      try simp only [Act.put, List.setIfInBounds_toArray, List.set_cons_zero, List.set_cons_succ]
      refine wpAnyH_take (i := 11) (oi := ?o11_12) (v := ?v11_12) ?hi11_12 ?hs11_12 ?hf11_12 ?hr11_12 (fun _ _ _ h => h) ?hy11_12 (by assumption) ?hh11_12
      case hi11_12 => ((simp only [List.getElem?_toArray, List.getElem?_cons_succ, List.getElem?_cons_zero]); rfl)
      case hs11_12 => kernel_rfl
      case hf11_12 => kernel_rfl
      case hr11_12 => kernel_rfl
      case hy11_12 => exact Or.inl ⟨by rfl, by (intro wq hSw; (try dsimp only at hSw); go_simp; (try with_reducible rfl))⟩
      try simp only [Act.put, List.setIfInBounds_toArray, List.set_cons_zero, List.set_cons_succ]
      refine wpAnyH_take (i := 12) (oi := ?o12_13) (v := ?v12_13) ?hi12_13 ?hs12_13 ?hf12_13 ?hr12_13 (fun _ _ _ h => h) ?hy12_13 (by assumption) ?hh12_13
      case hi12_13 => ((simp only [List.getElem?_toArray, List.getElem?_cons_succ, List.getElem?_cons_zero]); rfl)
      case hs12_13 => kernel_rfl
      case hf12_13 => kernel_rfl
      case hr12_13 => kernel_rfl
      case hy12_13 => exact Or.inl ⟨by rfl, by (intro wq hSw; (try dsimp only at hSw); go_simp; (try with_reducible rfl))⟩
      try simp only [Act.put, List.setIfInBounds_toArray, List.set_cons_zero, List.set_cons_succ]
      refine wpAnyH_take (i := 13) (oi := ?o13_14) (v := ?v13_14) ?hi13_14 ?hs13_14 ?hf13_14 ?hr13_14 (fun _ _ _ h => h) ?hy13_14 (by assumption) ?hh13_14
      case hi13_14 => ((simp only [List.getElem?_toArray, List.getElem?_cons_succ, List.getElem?_cons_zero]); rfl)
      case hs13_14 => kernel_rfl
      case hf13_14 => kernel_rfl
      case hr13_14 => kernel_rfl
      case hy13_14 => exact Or.inl ⟨by rfl, by (intro wq hSw; (try dsimp only at hSw); go_simp; (try with_reducible rfl))⟩
      try simp only [Act.put, List.setIfInBounds_toArray, List.set_cons_zero, List.set_cons_succ]
      refine wpAnyH_done (by kernel_rfl) ?_ _
      refine NoPanic.normal ?_
      have HH := hide hHeld
      clear hHeld
      generalize wr.drew = wd at *
      cases ok
      · have s0 := HST.out _ HH.out.1
        have u : ∀ j, wd.frozen? ⟨w.heap.size, j, none⟩ = false := fun j => by simp [World.frozen?, s0]
        have u0 := u 0
        have u1 := u 1
        have u2 := u 2
        have u3 := u 3
        have u4 := u 4
        have y0 : wd.cell? ⟨w.heap.size, 0, none⟩ = some (.int .i64 0) := by simp [World.cell?, s0]
        have y1 : wd.cell? ⟨w.heap.size, 1, none⟩ = some (.int .i64 0) := by simp [World.cell?, s0]
        have y2 : wd.cell? ⟨w.heap.size, 2, none⟩ = some (.int .i64 0) := by simp [World.cell?, s0]
        have y3 : wd.cell? ⟨w.heap.size, 3, none⟩ = some (.int .i64 0) := by simp [World.cell?, s0]
        have y4 : wd.cell? ⟨w.heap.size, 4, none⟩ = some (.int .i64 0) := by simp [World.cell?, s0]
        have HBE := hide (HB1.out.trans (HH.out.1.mono HB1.out.size))
        clear u s0 PX PY
        go_wp2_with fail
        refine bodyPost_ret (v := .tuple #[.agg #[.int .i64 0, .int .i64 0, .int .i64 0, .int .i64 0, .int .i64 0], .bool false]) (by simp [results, Tryz.results140, go_sem, y0, y1, y2, y3, y4]) rfl ⟨0, 0, 0, 0, 0, false, rfl, five_bd (by omega) (by omega) (by omega) (by omega) (by omega) (by omega) (by omega), ?_⟩
        (repeat (refine Below.setCell ?_ (show w.heap.size ≤ w.heap.size from Nat.le_refl _) _))
        exact HBE.out
      · clear PX PY
        have hzd : w1.heap.size ≤ wd.heap.size := HH.out.1.size
        go_wp2_with (at_builtin; refine wpList_appI rfl _ _ rfl w1.heap.size rfl HH.out.2 rfl (by have := HLO.out; omega) ?_ ?_; (focus (exact hzd)); intro A5 c5 w5 ho5 hb5 _hg5; have HO5 := hide ho5; have HB5 := hide (HH.out.1.trans hb5); clear ho5 hb5)
        go_roundw
        case rel => exact ⟨k + 1, A5, c5, os ++ [r], by go_num, by simp, by omega, by simp [HLO.out], hide (fun j => by
          by_cases e : j < os.length
          · rw [ig_snoc_lt os r e]; exact HOB.out j
          · by_cases e2 : j = os.length
            · subst e2; rw [ig_snoc]; exact ⟨r0, r1⟩
            · rw [ig_out (by simp; omega)]; omega), hide (by simpa using HO5.out), HB5⟩
        case measure => simp [intOf]; omega
    · obtain rfl : k = 5 := by omega
      match os, ho with
      | [t0, t1, t2, t3, t4], _ =>
        have HSD := hide (specl04Sound_is A2 c2 t0 t1 t2 t3 t4 wr (OwnI.sl HO.out rfl))
        go_wp2_with fail
        refine HSD.out.mono ?_
        rintro e w5 ⟨rfl, hb5⟩
        have HB5 := hide (HB.out.trans (hb5.mono hz))
        clear hb5
        have s0 := HST.out _ HB5.out
        have u : ∀ j, w5.frozen? ⟨w.heap.size, j, none⟩ = false := fun j => by simp [World.frozen?, s0]
        have u0 := u 0
        have u1 := u 1
        have u2 := u 2
        have u3 := u 3
        have u4 := u 4
        have y0 : w5.cell? ⟨w.heap.size, 0, none⟩ = some (.int .i64 0) := by simp [World.cell?, s0]
        have y1 : w5.cell? ⟨w.heap.size, 1, none⟩ = some (.int .i64 0) := by simp [World.cell?, s0]
        have y2 : w5.cell? ⟨w.heap.size, 2, none⟩ = some (.int .i64 0) := by simp [World.cell?, s0]
        have y3 : w5.cell? ⟨w.heap.size, 3, none⟩ = some (.int .i64 0) := by simp [World.cell?, s0]
        have y4 : w5.cell? ⟨w.heap.size, 4, none⟩ = some (.int .i64 0) := by simp [World.cell?, s0]
        have HBE := hide (HB1.out.trans (HB5.out.mono HB1.out.size))
        clear u s0
        go_wp2_with fail
        refine bodyPost_ret (v := .tuple #[.agg #[.int .i64 t0, .int .i64 t1, .int .i64 t2, .int .i64 t3, .int .i64 t4], .bool true]) (by simp [results, Tryz.results140, go_sem, y0, y1, y2, y3, y4]) rfl ⟨t0, t1, t2, t3, t4, true, rfl, HOB.out, ?_⟩
        (repeat (refine Below.setCell ?_ (show w.heap.size ≤ w.heap.size from Nat.le_refl _) _))
        exact HBE.out
/-- A draw under way: the source in block b, and what has changed since the world w0. -/
structure Dw (B b N : Nat) (w0 w : World) : Prop where
  s : Src w B b N
  bel : Below B w0 w
  gr : w0.grownBy w (some b)
  bl : b < w0.heap.size
theorem Dw.start {B b N : Nat} {w : World} (h : Src w B b N) : Dw B b N w w := ⟨h, Below.refl _ _, grown_refl _ _, h.lt⟩
section
variable {B b N N' : Nat} {w0 w w' : World}
theorem Dw.bB (h : Dw B b N w0 w) : B ≤ b := h.s.1
theorem Dw.size (h : Dw B b N w0 w) : w0.heap.size ≤ w.heap.size := h.gr.size
theorem Dw.step (h : Dw B b N w0 w) (hs : Src w' B b N') (hb : Below B w w') (hg : w.grownBy w' (some b)) : Dw B b N' w0 w' := ⟨hs, h.bel.trans hb, grown_trans h.gr hg, h.bl⟩
theorem Dw.below (h : Dw B b N w0 w) (hb : Below w.heap.size w w') : Dw B b N w0 w' :=
  ⟨h.s.below hb, h.bel.trans (hb.mono (by have := h.bB; have := h.bl; have := h.size; omega)), grown_trans h.gr (grown_of_below hb _), h.bl⟩
theorem Dw.grown {row : Option Nat} (h : Dw B b N w0 w) (hg : w.grownBy w' row) (hr : ∀ j, row = some j → w0.heap.size ≤ j) : Dw B b N w0 w' := by
  have hbB := h.bB
  have hbl := h.bl
  have hz := h.size
  have hb : Below B w w' := Below.grown (Below.refl _ _) hg (by omega) fun j e => by have := hr j e; omega
  exact ⟨h.s.kept hg hb (fun e => by have := hr b e.symm; omega), h.bel.trans hb, h.gr.andThen hg (fun j e => .inl (hr j e)), hbl⟩
theorem Dw.set (h : Dw B b N w0 w) {q : Nat} (hq : w0.heap.size ≤ q) (j : Nat) (v : Value) : Dw B b N w0 (w.setCell ⟨q, j, none⟩ v) :=
  h.grown (grown_set (grown_refl w (some q)) j v) (fun i e => by injection e with e; omega)
theorem Dw.more (h : Dw B b N w0 w) (hN : N ≤ N') : Dw B b N' w0 w := ⟨h.s.more hN, h.bel, h.gr, h.bl⟩
end
theorem srcOne (B b N : Nat) (n : Int) (w : World) (h : Src w B b N) (hN : N ≤ 1000000) (hn : n ≤ 1000000) :
    Calls Tryz.prog 84 #[.pointer (some ⟨b, 0, none⟩), .int .i64 n] w fun e w' => ∃ d : Bool, e = .returned (.bool d) ∧ Src w' B b (N + 2) ∧ Below B w w' ∧ w.grownBy w' (some b) := by
  have HS := hide h
  clear h
  go_enter Tryz.func84, Tryz.ntmps84
  go_wp2_with fail
  refine (srcPick B b N n _ HS.out hN hn).mono ?_
  rintro e w1 ⟨r, rfl, -, -, hS1, hb1, hg1⟩
  have H1 := hide (And.intro hS1 (And.intro hb1 hg1))
  clear hS1 hb1 hg1
  go_wp2_with fail
  go_ret
  exact ⟨_, rfl, H1.out.1, H1.out.2.1, H1.out.2.2⟩
/-- A drawn sound. -/
def DrSound (B b N : Nat) (w : World) (e : Ending) (w' : World) : Prop := ∃ (t0 t1 t2 t3 t4 : Int), e = .returned (.agg #[.int .i64 t0, .int .i64 t1, .int .i64 t2, .int .i64 t3, .int .i64 t4]) ∧ (∀ j, 0 ≤ ig [t0, t1, t2, t3, t4] j ∧ ig [t0, t1, t2, t3, t4] j ≤ 20200000) ∧ Dw B b N w w'
set_option maxRecDepth 100000 in
set_option maxHeartbeats 1000000 in
theorem l04DrawOk_is (B b N : Nat) (w : World) (h : Src w B b N) (hN : N ≤ 100000) :
    Calls Tryz.prog 86 #[.pointer (some ⟨b, 0, none⟩)] w (DrSound B b (N + 24) w) := by
  obtain ⟨w1, hw1⟩ : ∃ w1, w1 = w.alloc (.cells #[.int .i64 0, .int .i64 0, .int .i64 0, .int .i64 0, .int .i64 0] 32) := ⟨_, rfl⟩
  have hb1 : Below w.heap.size w w1 := by rw [hw1]; exact (by repeat (first | with_reducible exact Below.refl _ _ | with_reducible assumption | (with_reducible refine Below.drew ?_) | (with_reducible refine below_drewN ?_ _) | ((with_reducible refine Below.alloc ?_ ?_ _); rotate_left; (focus (first | omega | (simp; omega) | simp))) | ((with_reducible refine Below.setCell ?_ ?_ _); rotate_left; (focus (first | omega | (simp; omega) | simp))) | (refine Below.trans ?_ (Below.mono (by assumption) (by first | omega | (simp; omega) | simp)))))
  have s0 : w1.heap[w.heap.size]? = some (.cells #[.int .i64 0, .int .i64 0, .int .i64 0, .int .i64 0, .int .i64 0] 32 (0, 0)) := by rw [hw1]; exact heap_alloc_new w _
  have HD1 := hide ((Dw.start h).below hb1)
  have HR1 := hide s0
  have hbl := h.lt
  have hB := h.1
  have HZ1 := hide (heap_lt s0)
  clear hb1 s0 h
  go_enter Tryz.func86, Tryz.ntmps86
  go_wp2_with fail
  rw [← hw1]
  clear hw1
  refine (srcPick B b N 2000 w1 HD1.out.s (by omega) (by omega)).mono ?_
  rintro e w2 ⟨p, rfl, p0, p1, hs2, hb2, hg2⟩
  have hp1 := p1 (by omega)
  have HD2 := hide (HD1.out.step hs2 hb2 hg2)
  have HR2 := hide ((hg2.block w.heap.size HZ1.out (fun e => by injection e with e; omega)).trans HR1.out)
  have HZ2 := hide (Nat.lt_of_lt_of_le HZ1.out hg2.size)
  clear hs2 hb2 hg2 p1 HD1 HR1 HZ1
  go_wp2_with fail
  refine (srcPick B b (N + 2) 2 w2 HD2.out.s (by omega) (by omega)).mono ?_
  rintro e w3 ⟨q, rfl, q0, q1, hs3, hb3, hg3⟩
  have hq1 := q1 (by omega)
  have HD3 := hide (HD2.out.step hs3 hb3 hg3)
  have HR3 := hide ((hg3.block w.heap.size HZ2.out (fun e => by injection e with e; omega)).trans HR2.out)
  have HZ3 := hide (Nat.lt_of_lt_of_le HZ2.out hg3.size)
  clear hs3 hb3 hg3 q1 HD2 HR2 HZ2
  obtain ⟨st, hst⟩ : ∃ st, st = 200000 + p * 500 := ⟨_, rfl⟩
  have st0 : 1 ≤ st := by omega
  have st1 : st ≤ 100000000 := by omega
  have HQ1 := hide hq1
  go_upto_region 3 with fail
  rw [← hst]
  clear hst p0 hp1 hq1
  have hal : Below w3.heap.size w3 (w3.alloc (.cells #[.int .i64 st, .int .i64 st, .int .i64 st, .int .i64 st, .int .i64 st] 2)) := (Below.refl _ _).alloc (Nat.le_refl _) _
  have HO4 := hide (own5 (w := w3) (B := w3.heap.size) (t0 := st) (t1 := st) (t2 := st) (t3 := st) (t4 := st) (Nat.le_refl _) rfl)
  have HD4 := hide (HD3.out.below hal)
  have HR4 := hide ((hal.block _ HZ3.out).trans HR3.out)
  obtain ⟨q4, hq4⟩ : ∃ q4, q4 = w3.heap.size := ⟨_, rfl⟩
  have HQ4 := hide (show w.heap.size < q4 by rw [hq4]; exact HZ3.out)
  have HLT4 := hide (show w.heap.size < (w3.alloc (.cells #[.int .i64 st, .int .i64 st, .int .i64 st, .int .i64 st, .int .i64 st] 2)).heap.size from Nat.lt_of_lt_of_le HZ3.out hal.size)
  rw [← hq4] at HO4
  clear HD3 HR3 hal
  go_wp2_with fail
  rw [← hq4]
  clear hq4 HZ3
  generalize w3.alloc (.cells #[.int .i64 st, .int .i64 st, .int .i64 st, .int .i64 st, .int .i64 st] 2) = w4 at *
  refine (l04Offsets_is _ w4).mono ?_
  rintro e w5 ⟨A5, c5, ys, rfl, hyl, hyb, ho5, hb5⟩
  have HO5 := hide ho5
  have HOX := hide (HO4.out.below hb5)
  have HD5 := hide (HD4.out.below hb5)
  have HR5 := hide ((hb5.block _ HLT4.out).trans HR4.out)
  have HYB := hide hyb
  have HYL := hide hyl
  have HLT5 := hide (Nat.lt_of_lt_of_le HLT4.out hb5.size)
  clear ho5 hb5 HO4 HD4 HR4 hyb hyl HLT4
  have HRS := hide (l04Raised_is (some ⟨q4, 0, none⟩) A5 5 c5 [st, st, st, st, st] ys w5 (OwnI.sl HOX.out rfl) (OwnI.sl HO5.out HYL.out.symm) rfl HYL.out (hide (fun j hj => by
    match j, hj with
    | 0, _ => exact ⟨st0, st1⟩
    | 1, _ => exact ⟨st0, st1⟩
    | 2, _ => exact ⟨st0, st1⟩
    | 3, _ => exact ⟨st0, st1⟩
    | 4, _ => exact ⟨st0, st1⟩)) HYB)
  go_wp2_with fail
  refine HRS.out.mono ?_
  rintro e w6 ⟨t0, t1, t2, t3, t4, ok, rfl, htb, hb6⟩
  have HD6 := hide (HD5.out.below hb6)
  have HR6 := hide ((hb6.block _ HLT5.out).trans HR5.out)
  have HTB := hide htb
  have HLT6 := hide (Nat.lt_of_lt_of_le HLT5.out hb6.size)
  clear hb6 htb HD5 HR5 HOX HO5 HYB HYL HRS HLT5
  have hal : Below w6.heap.size w6 (w6.alloc (.cells #[.int .i64 t0, .int .i64 t1, .int .i64 t2, .int .i64 t3, .int .i64 t4] 32)) := (Below.refl _ _).alloc (Nat.le_refl _) _
  have HD7 := hide (HD6.out.below hal)
  have HR7 := hide ((hal.block _ HLT6.out).trans HR6.out)
  have hs7 := heap_alloc_new w6 (.cells #[.int .i64 t0, .int .i64 t1, .int .i64 t2, .int .i64 t3, .int .i64 t4] 32)
  have HLI := hide (l04List_is w6.heap.size 0 t0 t1 t2 t3 t4 (w6.alloc (.cells #[.int .i64 t0, .int .i64 t1, .int .i64 t2, .int .i64 t3, .int .i64 t4] 32)) (by simp) (by simp) (by simp) (by simp) (by simp))
  have HLT7 := hide (Nat.lt_of_lt_of_le HLT6.out hal.size)
  clear hal hs7 HD6 HR6
  go_wp2_with fail
  generalize w6.alloc (.cells #[.int .i64 t0, .int .i64 t1, .int .i64 t2, .int .i64 t3, .int .i64 t4] 32) = w7 at *
  refine HLI.out.mono ?_
  rintro e w8 ⟨g, rfl, ho8, hb8⟩
  have HO8 := hide (ho8.mono (B' := w.heap.size + 1) HLT7.out)
  have HD8 := hide (HD7.out.below hb8)
  have HR8 := hide ((hb8.block _ HLT7.out).trans HR7.out)
  clear ho8 hb8 HD7 HR7 HLI HLT7 HLT6
  go_wp2_with fail
  go_loopw [8] (fun v wr => ∃ (k : Nat) (os : List Int), v = .int .i64 k ∧ k ≤ 5 ∧ os.length = 5 ∧ Hid (∀ j, 0 ≤ ig os j ∧ ig os j ≤ 20200000 ∧ (k ≤ j → ig os j ≤ 20000000)) ∧ Hid (OwnI wr (w.heap.size + 1) (.slice (some ⟨g, 0, none⟩) 5 5) os) ∧ Hid (Dw B b (N + 4 + 4 * k) w wr) ∧ Hid (wr.heap[w.heap.size]? = some (.cells #[.int .i64 0, .int .i64 0, .int .i64 0, .int .i64 0, .int .i64 0] 32 (0, 0)))) (fun v _ => 5 - (intOf v).toNat)
  case atStart => exact ⟨0, [t0, t1, t2, t3, t4], rfl, by omega, rfl, hide (fun j => by have := HTB.out j; omega), HO8, hide (HD8.out.more (by omega)), HR8⟩
  case round =>
    clear HO8 HD8 HR8
    obtain ⟨k, os, rfl, hk, hol, HOB, HO, HD, HR⟩ := hrel
    have HOL := hide hol
    by_cases hlt : k < 5
    · have hki : (k : Int) < 5 := by omega
      have hk0 : (0 : Int) ≤ k := by omega
      go_wp2_with fail
      refine (srcOne B b (N + 4 + 4 * k) 2 wr HD.out.s (by omega) (by omega)).mono ?_
      rintro e w9 ⟨dd, rfl, hs9, hb9, hg9⟩
      have HD9 := hide (HD.out.step hs9 hb9 hg9)
      have HR9 := hide ((hg9.block w.heap.size (heap_lt HR.out) (fun e => by injection e with e; have := HD.out.bl; omega)).trans HR.out)
      have HO9 := hide (own_farN HO.out (show b < w.heap.size + 1 by have := HD.out.bl; omega) hg9)
      clear hs9 hb9 hg9 HD HR HO
      cases dd
      · go_wp2_with fail
        go_roundw
        case rel => exact ⟨k + 1, os, by go_num, by omega, hol, hide (fun j => by have := HOB.out j; omega), HO9, hide (HD9.out.more (by omega)), HR9⟩
        case measure => simp [intOf]; omega
      · obtain ⟨g', hA, hg1, hg2, c1, f1⟩ := own_get1 (k := k) HO9.out (by omega)
        injection hA with hA; injection hA with hA
        subst hA
        obtain ⟨x0, x1, x2⟩ := HOB.out k
        have x3 := x2 (Nat.le_refl _)
        have HST := hide (fun W (v : Int) (h : OwnI W (w.heap.size + 1) (.slice (some ⟨g, 0, none⟩) 5 5) os) => own_set1 (f := fun x : Int => .int .i64 x) (fun _ => rfl) h (k := k) v)
        obtain ⟨x, hx⟩ : ∃ x, x = ig os k := ⟨_, rfl⟩
        rw [← hx] at c1 x0 x1 x3
        have HBD := hide (show ∀ v, 0 ≤ v → v ≤ 20200000 → ∀ j, 0 ≤ ig (os.set k v) j ∧ ig (os.set k v) j ≤ 20200000 ∧ (k + 1 ≤ j → ig (os.set k v) j ≤ 20000000) from fun v v0 v1 j => by
          rw [ig_set os k j v (by rw [HOL.out]; exact hlt)]
          have := HOB.out j
          split
          · exact ⟨v0, v1, fun q => by omega⟩
          · exact ⟨this.1, this.2.1, fun q => this.2.2 (by omega)⟩)
        clear hx x2 HOB
        have hgw : w.heap.size < g := by omega
        have HGW := hide hgw
        have hgb : g ≠ b := by have := HD9.out.bl; omega
        have hkq : x.tdiv 1000 = x / 1000 := Int.tdiv_eq_ediv_of_nonneg x0
        obtain ⟨y, hy⟩ : ∃ y, y = x / 1000 := ⟨_, rfl⟩
        rw [← hy] at hkq
        have y0 : 0 ≤ y := by omega
        have y1 : y ≤ 20000 := by omega
        have y2 : 1000 * y ≤ x := by omega
        clear hy
        have HKW := hide (show ∀ r : Int, 0 ≤ r → r < 21 → -200000 ≤ y * (r - 10) ∧ y * (r - 10) ≤ 200000 ∧ -10 * y ≤ y * (r - 10) ∧ y * (r - 10) ≤ 10 * y from fun r r0 r1 => by
          have a0 := Int.mul_nonneg y0 r0
          have a1 : y * r ≤ y * 20 := Int.mul_le_mul_of_nonneg_left (by omega) y0
          have e : y * (r - 10) = y * r - y * 10 := Int.mul_sub _ _ _
          rw [e]
          omega)
        have HD9' := HD9
        go_wp2_with fail
        have HDD := hide (HD9.out.below ((Below.refl w9.heap.size w9).drew))
        have HOD := hide (HO9.out.below ((Below.refl w9.heap.size w9).drew))
        have HRD := hide (show w9.drew.heap[w.heap.size]? = _ from HR9.out)
        have c1 : w9.drew.cell? ⟨g, k, none⟩ = some (.int .i64 x) := c1
        have f1 : w9.drew.frozen? ⟨g, k, none⟩ = false := f1
        have hg2 : g < w9.drew.heap.size := hg2
        clear HD9 HO9 HR9 HD9'
        have kwy : IntKind.i64.wrap y = y := IntWalk.i64_in _ (by omega)
        go_region_law (go_simp; go_at_call 89; refine (srcPick B b (N + 4 + 4 * k + 2) 21 w9.drew HDD.out.s (by omega) (by omega)).mono ?_; rintro e wA ⟨r, rfl, r0, r1, hsA, hbA, hgA⟩; have hr1 := r1 (by omega); have cA : wA.cell? ⟨g, k, none⟩ = some (.int .i64 x) := (hgA.cell_far ⟨g, k, none⟩ hg2 (fun e => by injection e with e; exact hgb e)).trans c1; have fA : wA.frozen? ⟨g, k, none⟩ = false := (hgA.frozen_far ⟨g, k, none⟩ hg2 (fun e => by injection e with e; exact hgb e)).trans f1; have HDA := hide (HDD.out.step (w' := wA) hsA hbA hgA); have HOA := hide (own_farN HOD.out (show b < w.heap.size + 1 by have := HDD.out.bl; omega) hgA); have HRA := hide ((hgA.block w.heap.size (heap_lt HRD.out) (fun e => by injection e with e; have := HDD.out.bl; omega)).trans HRD.out); have HZB := hide (HKW.out r r0 hr1); have kw1 : IntKind.i64.wrap (y * (r - 10)) = y * (r - 10) := IntWalk.i64_in _ (by have := HZB.out; omega); have kw2 : IntKind.i64.wrap (x + y * (r - 10)) = x + y * (r - 10) := IntWalk.i64_in _ (by have := HZB.out; omega); clear hsA hbA hgA r1)
        all_goals
          rw [show IntKind.i64.wrap (r - 10) = r - 10 from IntWalk.i64_in _ (by omega), kw1, kw2]
          have HN := hide (HST.out wA (x + y * (r - 10)) HOA.out)
          have HDN := hide (HDA.out.set (q := g) (by have := HGW.out; omega) k (.int .i64 (x + y * (r - 10))))
          have HRN := hide (show (wA.setCell ⟨g, k, none⟩ (.int .i64 (x + y * (r - 10)))).heap[w.heap.size]? = _ from (heap_other (by have := HGW.out; omega)).trans HRA.out)
          go_wp2_with fail
          go_roundw
          case rel => exact ⟨k + 1, os.set k (x + y * (r - 10)), by go_num, by omega, by rw [List.length_set]; exact HOL.out, hide (HBD.out _ (by have := HZB.out; omega) (by have := HZB.out; omega)), HN, hide (HDN.out.more (by omega)), HRN⟩
          case measure => simp [intOf]; omega
    · obtain rfl : k = 5 := by omega
      match os, hol with
      | [t0, t1, t2, t3, t4], _ =>
        have HSD := hide (specl04Sound_is (some ⟨g, 0, none⟩) 5 t0 t1 t2 t3 t4 wr (OwnI.sl HO.out rfl))
        go_wp2_with fail
        refine HSD.out.mono ?_
        rintro e w9 ⟨rfl, hb9⟩
        have HD9 := hide (HD.out.below hb9)
        have s0 := (hb9.block _ (heap_lt HR.out)).trans HR.out
        have u : ∀ j, w9.frozen? ⟨w.heap.size, j, none⟩ = false := fun j => by simp [World.frozen?, s0]
        have u0 := u 0
        have u1 := u 1
        have u2 := u 2
        have u3 := u 3
        have u4 := u 4
        have y0 : w9.cell? ⟨w.heap.size, 0, none⟩ = some (.int .i64 0) := by simp [World.cell?, s0]
        have y1 : w9.cell? ⟨w.heap.size, 1, none⟩ = some (.int .i64 0) := by simp [World.cell?, s0]
        have y2 : w9.cell? ⟨w.heap.size, 2, none⟩ = some (.int .i64 0) := by simp [World.cell?, s0]
        have y3 : w9.cell? ⟨w.heap.size, 3, none⟩ = some (.int .i64 0) := by simp [World.cell?, s0]
        have y4 : w9.cell? ⟨w.heap.size, 4, none⟩ = some (.int .i64 0) := by simp [World.cell?, s0]
        clear u s0 hb9
        go_wp2_with fail
        refine bodyPost_ret (v := .agg #[.int .i64 t0, .int .i64 t1, .int .i64 t2, .int .i64 t3, .int .i64 t4]) (by simp [results, Tryz.results86, go_sem, y0, y1, y2, y3, y4]) rfl ⟨t0, t1, t2, t3, t4, rfl, fun j => by have := HOB.out j; omega, ?_⟩
        exact (((((HD9.out.set (Nat.le_refl _) 0 _).set (Nat.le_refl _) 1 _).set (Nat.le_refl _) 2 _).set (Nat.le_refl _) 3 _).set (Nat.le_refl _) 4 _).more (by omega)
end Go.Proofs.YtnefgafmnpblpaaGreat
