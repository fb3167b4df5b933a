/- Contracts: sounds, on both sides: their lists, whether they are valid, deviations, what is too low or too high. -/
import Derived.Test.YtnefgafmnpblpaaGreatPnA
import Derived.Test.YtnefgafmnpblpaaGreatPnRa
import Derived.Deep.RegionHeld3
namespace Go.Proofs.YtnefgafmnpblpaaGreat
open Go.RowKit Pn

theorem own_lits {α : Type} {enc : α → List Value} {T : TypeId} {B : Nat} (w : World) (xs : List α) (cs : Array Value) (hB : B ≤ w.heap.size) (he : ∀ x, (enc x).length = 1) (hc : cs.toList = xs.flatMap enc) (hm : xs.length ≤ maxLen) :
    Own enc 1 T (w.alloc (.cells cs T)) B (.slice (some ⟨w.heap.size, 0, none⟩) xs.length xs.length) xs := by
  have hl := flat_length he xs
  refine ⟨hl, .inr ⟨w.heap.size, xs.length, cs, rfl, hB, heap_alloc_new w _, Nat.le_refl _, hm, ?_, ?_⟩⟩
  · rw [← Array.length_toList, hc]; exact hl
  · rw [hc, ← hl, List.take_length]
theorem SlAt.getA {w : World} {A : Option Addr} {xs : List Int} (h : SlAt encI 1 w A xs) (h0 : 0 < xs.length) : ∃ b o, A = some ⟨b, o, none⟩ ∧ b < w.heap.size ∧ ∀ j, j < xs.length → w.cell? ⟨b, o + j, none⟩ = some (.int .i64 (ig xs j)) := by
  obtain ⟨b, o, rfl, hb, _⟩ := h 0 h0
  refine ⟨b, o, rfl, hb, fun j hj => ?_⟩
  obtain ⟨b', o', e, _, hc⟩ := h j hj
  injection e with e; injection e with e1 e2; subst e1; subst e2
  have := hc 0 _ rfl
  rw [ig_eq hj] at this
  simpa using this
theorem implIsFrequency_any (n : Int) (w : World) : Calls Tryz.prog 181 #[.int .i64 n] w fun e w' => e = .returned (.bool (inB n 10000 20000000)) ∧ w = w' := by
  go_enter Tryz.func181, Tryz.ntmps181
  go_wp2_with (go_at_call 120; refine (implwithin_any _ _ _ _).mono ?_; rintro e w' ⟨rfl, rfl⟩)
  go_ret
  exact ⟨rfl, rfl⟩
theorem abs_is (a : Int) (h : -4000000000000000000 ≤ a) (w : World) : Calls Tryz.prog 105 #[.int .i64 a] w fun e w' => e = .returned (.int .i64 (absI a)) ∧ w = w' := by
  by_cases h0 : 0 ≤ a
  · rw [show absI a = a by unfold absI; rw [if_pos h0]]; exact abs_pos a w h0
  · rw [show absI a = -a by unfold absI; rw [if_neg h0]]; exact abs_neg a w (by omega) h
def AllF (xs : List Int) : Prop := ∀ k, k < xs.length → 10000 ≤ ig xs k ∧ ig xs k ≤ 20000000
def Rises (xs : List Int) (lo hi : Int) : Prop := (∀ k, k < xs.length → lo ≤ ig xs k ∧ ig xs k ≤ hi) ∧ ∀ k, k + 1 < xs.length → ig xs k < ig xs (k + 1)
theorem sound_iff {a b c d e : Int} : SoundOK [a, b, c, d, e] ↔ Rises [a, b, c, d, e] 10000 20000000 := by
  constructor
  · intro h
    refine ⟨fun k hk => h.at_ k (by simpa using hk), fun k hk => h.rise k (by simp at hk; omega)⟩
  · intro h
    exact ⟨(h.1 0 (by simp)).1, fun k hk => h.2 k (by simp; omega), (h.1 4 (by simp)).2⟩
theorem sound_all {a b c d e : Int} : SoundOK [a, b, c, d, e] ↔ AllF [a, b, c, d, e] ∧ a < b ∧ b < c ∧ c < d ∧ d < e := by
  rw [sound_iff]
  constructor
  · intro h
    refine ⟨h.1, ?_, ?_, ?_, ?_⟩
    · simpa using h.2 0 (by simp)
    · simpa using h.2 1 (by simp)
    · simpa using h.2 2 (by simp)
    · simpa using h.2 3 (by simp)
  · rintro ⟨h, h1, h2, h3, h4⟩
    refine ⟨h, fun k hk => ?_⟩
    simp at hk
    match k, hk with
    | 0, _ => simpa using h1
    | 1, _ => simpa using h2
    | 2, _ => simpa using h3
    | 3, _ => simpa using h4
set_option maxRecDepth 100000 in
theorem areFreq_is (A : Option Addr) (c : Nat) (xs : List Int) (w : World) (h : SlAt encI 1 w A xs) (hn : xs.length ≤ 1048576) :
    Calls Tryz.prog 157 #[.slice A xs.length c] w fun e w' => e = .returned (.bool (dc (AllF xs))) ∧ w = w' := by
  have HX := hide h
  clear h
  go_enter Tryz.func157, Tryz.ntmps157
  go_wp2_with fail
  go_loopw [7] (fun v wr => ∃ k : Nat, v = .int .i64 k ∧ k ≤ xs.length ∧ Hid (∀ j, j < k → 10000 ≤ ig xs j ∧ ig xs j ≤ 20000000) ∧ w = wr) (fun v _ => xs.length - (intOf v).toNat)
  case atStart => exact ⟨0, rfl, by omega, hide fun j hj => by omega, rfl⟩
  case round =>
    obtain ⟨k, rfl, hk, HJ, rfl⟩ := hrel
    by_cases hlt : k < xs.length
    · obtain ⟨b, o, rfl, hb, hc⟩ := HX.out.getA (by omega)
      have hck := hc k hlt
      have HS := hide (fun h : inB (ig xs k) 10000 20000000 = true => show ∀ j, j < k + 1 → 10000 ≤ ig xs j ∧ ig xs j ≤ 20000000 from fun j hj => by
        by_cases e : j = k
        · subst e; exact inB_true h
        · exact HJ.out j (by omega))
      have HE := hide (fun h : inB (ig xs k) 10000 20000000 = false => dc_false (p := AllF xs) fun q => by have := q k hlt; have := inB_false h; omega)
      clear hc HJ
      generalize ig xs k = x at *
      cases hv : inB x 10000 20000000
      · have E := hide (HE.out hv)
        clear HE HS
        go_wp2_with (go_at_call 181; refine (implIsFrequency_any _ _).mono ?_; rintro e w' ⟨rfl, rfl⟩)
        go_ret
        exact ⟨ret_bool E.out.symm, rfl⟩
      · have E := hide (HS.out hv)
        clear HE HS
        go_wp2_with (go_at_call 181; refine (implIsFrequency_any _ _).mono ?_; rintro e w' ⟨rfl, rfl⟩)
        go_roundw
        case rel => exact ⟨k + 1, by go_num, by omega, E, trivial⟩
        case measure => simp [intOf]; omega
    · have E := hide (dc_true (p := AllF xs) fun j hj => HJ.out j (by omega))
      clear HJ
      go_wp2_with fail
      go_ret
      exact ⟨ret_bool E.out.symm, rfl⟩
set_option maxRecDepth 100000 in
theorem l00Rises_is (A : Option Addr) (c : Nat) (xs : List Int) (lo hi : Int) (w : World) (h : SlAt encI 1 w A xs) (hn : xs.length ≤ 1048576) :
    Calls Tryz.prog 184 #[.slice A xs.length c, .int .i64 lo, .int .i64 hi] w fun e w' => e = .returned (.bool (dc (Rises xs lo hi))) ∧ Below w.heap.size w w' := by
  have HX := hide h
  clear h
  go_enter Tryz.func184, Tryz.ntmps184
  go_wp2_with fail
  go_loopw [7] (fun v wr => ∃ k : Nat, v = .int .i64 k ∧ k ≤ xs.length ∧ Hid ((∀ j, j < k → lo ≤ ig xs j ∧ ig xs j ≤ hi) ∧ ∀ j, j + 1 < k → ig xs j < ig xs (j + 1)) ∧ Hid (Below w.heap.size w wr)) (fun v _ => xs.length - (intOf v).toNat)
  case atStart => exact ⟨0, rfl, by omega, hide ⟨fun j hj => by omega, fun j hj => by omega⟩, hide (by repeat (first | with_reducible exact Below.refl _ _ | with_reducible assumption | (with_reducible refine Below.drew ?_) | (with_reducible refine below_drewN ?_ _) | ((with_reducible refine Below.alloc ?_ ?_ _); rotate_left; (focus (first | omega | (simp; omega) | simp))) | ((with_reducible refine Below.setCell ?_ ?_ _); rotate_left; (focus (first | omega | (simp; omega) | simp))) | (refine Below.trans ?_ (Below.mono (by assumption) (by first | omega | (simp; omega) | simp)))))⟩
  case round =>
    obtain ⟨k, rfl, hk, HJ, HB⟩ := hrel
    have hz := HB.out.size
    by_cases hlt : k < xs.length
    · obtain ⟨b, o, rfl, hb, hc⟩ := (HX.out.below HB.out).getA (by omega)
      have hck := hc k hlt
      have hcp : 0 < k → wr.cell? ⟨b, o + (k - 1), none⟩ = some (.int .i64 (ig xs (k - 1))) := fun _ => hc (k - 1) (by omega)
      have HS := hide (fun (h : inB (ig xs k) lo hi = true) (h2 : k = 0 ∨ ig xs (k - 1) < ig xs k) => show (∀ j, j < k + 1 → lo ≤ ig xs j ∧ ig xs j ≤ hi) ∧ ∀ j, j + 1 < k + 1 → ig xs j < ig xs (j + 1) from by
        refine ⟨fun j hj => ?_, fun j hj => ?_⟩
        · by_cases e : j = k
          · subst e; exact inB_true h
          · exact HJ.out.1 j (by omega)
        · by_cases e : j + 1 = k
          · subst e
            rcases h2 with h2 | h2
            · omega
            · simpa using h2
          · exact HJ.out.2 j (by omega))
      have HE := hide (fun h : inB (ig xs k) lo hi = false => dc_false (p := Rises xs lo hi) fun q => by have := q.1 k hlt; have := inB_false h; omega)
      have HE2 := hide (fun (h0 : 0 < k) (h : ig xs k ≤ ig xs (k - 1)) => dc_false (p := Rises xs lo hi) fun q => by
        have := q.2 (k - 1) (by omega)
        rw [show k - 1 + 1 = k by omega] at this
        omega)
      clear hc HJ
      generalize ig xs (k - 1) = y at *
      generalize ig xs k = x at *
      cases hv : inB x lo hi
      · have E := hide (HE.out hv)
        clear HE HS HE2 hcp
        go_wp2_with fail
        refine wp_region_kept (by kernel_rfl) (by kernel_rfl) ?_
        intro gc gf gz
        repeat (go_big_quiet_step ((go_at_call 109; exact Calls.kept_same (specl00In_is _ _ _ _ (by assumption) _))))
        refine wpQuiet_nil ?_
        intro w1 hw'
        obtain ⟨⟨_, hb1⟩, rfl⟩ := hw'
        clear gc gf gz
        try dsimp only
        have fs1 := hb1.size
        try simp at fs1 hb1
        go_wp2_with fail
        go_ret
        exact ⟨ret_bool E.out.symm, HB.out.trans (hb1.mono hz)⟩
      · by_cases h0 : 0 < k
        · have hp := hcp h0
          have hi1 : ((k : Int) - 1) = ((k - 1 : Nat) : Int) := by omega
          have hd0 : decide (0 < (k : Int)) = true := by simp; omega
          by_cases hxy : x ≤ y
          · have E := hide (HE2.out h0 hxy)
            clear HE HS HE2 hcp
            go_wp2_with fail
            refine wp_region_kept (by kernel_rfl) (by kernel_rfl) ?_
            intro gc gf gz
            repeat (go_big_quiet_step ((go_at_call 109; exact Calls.kept_same (specl00In_is _ _ _ _ (by assumption) _))))
            refine wpQuiet_nil ?_
            intro w1 hw'
            obtain ⟨⟨_, hb1⟩, rfl⟩ := hw'
            clear gc gf gz
            try dsimp only
            have fs1 := hb1.size
            try simp at fs1 hb1
            go_wp2_with fail
            go_ret
            exact ⟨ret_bool E.out.symm, HB.out.trans (hb1.mono hz)⟩
          · have E := hide (HS.out hv (.inr (by omega)))
            clear HE HS HE2 hcp
            go_wp2_with fail
            refine wp_region_kept (by kernel_rfl) (by kernel_rfl) ?_
            intro gc gf gz
            repeat (go_big_quiet_step ((go_at_call 109; exact Calls.kept_same (specl00In_is _ _ _ _ (by assumption) _))))
            refine wpQuiet_nil ?_
            intro w1 hw'
            obtain ⟨⟨_, hb1⟩, rfl⟩ := hw'
            clear gc gf gz
            try dsimp only
            have fs1 := hb1.size
            try simp at fs1 hb1
            go_wp2_with fail
            go_roundw
            case rel => exact ⟨k + 1, by go_num, by omega, E, hide (HB.out.trans (hb1.mono hz))⟩
            case measure => simp [intOf]; omega
        · have hd0 : decide (0 < (k : Int)) = false := by simp; omega
          have E := hide (HS.out hv (.inl (by omega)))
          clear HE HS HE2 hcp
          go_wp2_with fail
          refine wp_region_kept (by kernel_rfl) (by kernel_rfl) ?_
          intro gc gf gz
          repeat (go_big_quiet_step ((go_at_call 109; exact Calls.kept_same (specl00In_is _ _ _ _ (by assumption) _))))
          refine wpQuiet_nil ?_
          intro w1 hw'
          obtain ⟨⟨_, hb1⟩, rfl⟩ := hw'
          clear gc gf gz
          try dsimp only
          have fs1 := hb1.size
          try simp at fs1 hb1
          go_wp2_with fail
          go_roundw
          case rel => exact ⟨k + 1, by go_num, by omega, E, hide (HB.out.trans (hb1.mono hz))⟩
          case measure => simp [intOf]; omega
    · have E := hide (dc_true (p := Rises xs lo hi) ⟨fun j hj => HJ.out.1 j (by omega), fun j hj => HJ.out.2 j (by omega)⟩)
      clear HJ
      go_wp2_with fail
      go_ret
      exact ⟨ret_bool E.out.symm, HB.out⟩
theorem OwnI.sl {w : World} {B n c : Nat} {A : Option Addr} {xs : List Int} (h : OwnI w B (.slice A n c) xs) (hn : n = xs.length) : SlAt encI 1 w A xs := by
  subst hn
  exact Own.at_ (enc := encI) (fun _ => rfl) h
/-- A list of five as a call's result. -/
def FiveRes (xs : List Int) (w : World) (e : Ending) (w' : World) : Prop := ∃ b, e = .returned (.slice (some ⟨b, 0, none⟩) 5 5) ∧ OwnI w' w.heap.size (.slice (some ⟨b, 0, none⟩) 5 5) xs ∧ Below w.heap.size w w'
theorem own5 {w : World} {B : Nat} {t0 t1 t2 t3 t4 : Int} (hB : B ≤ w.heap.size) {b : Nat} (hb : b = w.heap.size) : OwnI (w.alloc (.cells #[.int .i64 t0, .int .i64 t1, .int .i64 t2, .int .i64 t3, .int .i64 t4] 2)) B (.slice (some ⟨b, 0, none⟩) 5 5) [t0, t1, t2, t3, t4] := by
  subst hb
  exact own_lits (enc := encI) (T := 2) w [t0, t1, t2, t3, t4] _ hB (fun _ => rfl) rfl (by simp [maxLen])
set_option maxRecDepth 100000 in
theorem listOf_is (t0 t1 t2 t3 t4 : Int) (w : World) : Calls Tryz.prog 107 #[.agg #[.int .i64 t0, .int .i64 t1, .int .i64 t2, .int .i64 t3, .int .i64 t4]] w (FiveRes [t0, t1, t2, t3, t4] w) := by
  have H := hide (own5 (B := w.heap.size) (t0 := t0) (t1 := t1) (t2 := t2) (t3 := t3) (t4 := t4) (w := w.alloc (.cells #[.int .i64 t0, .int .i64 t1, .int .i64 t2, .int .i64 t3, .int .i64 t4] 32)) (by simp) rfl)
  go_enter Tryz.func107, Tryz.ntmps107
  go_wp2_with fail
  go_ret
  exact ⟨_, rfl, by simpa using H.out, (by repeat (first | with_reducible exact Below.refl _ _ | with_reducible assumption | (with_reducible refine Below.drew ?_) | (with_reducible refine below_drewN ?_ _) | ((with_reducible refine Below.alloc ?_ ?_ _); rotate_left; (focus (first | omega | (simp; omega) | simp))) | ((with_reducible refine Below.setCell ?_ ?_ _); rotate_left; (focus (first | omega | (simp; omega) | simp))) | (refine Below.trans ?_ (Below.mono (by assumption) (by first | omega | (simp; omega) | simp)))))⟩
set_option maxRecDepth 100000 in
theorem l04List_is (bl off : Nat) (t0 t1 t2 t3 t4 : Int) (w : World) (c0 : w.cell? ⟨bl, off, none⟩ = some (.int .i64 t0)) (c1 : w.cell? ⟨bl, off + 1, none⟩ = some (.int .i64 t1)) (c2 : w.cell? ⟨bl, off + 2, none⟩ = some (.int .i64 t2)) (c3 : w.cell? ⟨bl, off + 3, none⟩ = some (.int .i64 t3)) (c4 : w.cell? ⟨bl, off + 4, none⟩ = some (.int .i64 t4)) :
    Calls Tryz.prog 142 #[.pointer (some ⟨bl, off, none⟩)] w (FiveRes [t0, t1, t2, t3, t4] w) := by
  have HB := hide (show ∀ n, Below w.heap.size w (w.drewN n) from fun n => below_drewN (Below.refl _ _) n)
  go_enter Tryz.func142, Tryz.ntmps142
  go_wp2_with fail
  go_region
  all_goals
    go_wp2_with fail
    go_ret
    exact ⟨_, rfl, own5 (by simp) (by simp), (by repeat (first | with_reducible exact Below.refl _ _ | with_reducible assumption | (with_reducible refine Below.drew ?_) | (with_reducible refine below_drewN ?_ _) | ((with_reducible refine Below.alloc ?_ ?_ _); rotate_left; (focus (first | omega | (simp; omega) | simp))) | ((with_reducible refine Below.setCell ?_ ?_ _); rotate_left; (focus (first | omega | (simp; omega) | simp))) | (refine Below.trans ?_ (Below.mono (by assumption) (by first | omega | (simp; omega) | simp)))))⟩
set_option maxRecDepth 100000 in
theorem implsoundOf_is (A : Option Addr) (c : Nat) (t0 t1 t2 t3 t4 : Int) (w : World) (h : SlAt encI 1 w A [t0, t1, t2, t3, t4]) :
    Calls Tryz.prog 103 #[.slice A 5 c] w fun e w' => e = .returned (.agg #[.int .i64 t0, .int .i64 t1, .int .i64 t2, .int .i64 t3, .int .i64 t4]) ∧ Below w.heap.size w w' := by
  obtain ⟨b, o, rfl, hb, hc⟩ := h.getA (by simp)
  have h0 := hc 0 (by simp)
  have h1 := hc 1 (by simp)
  have h2 := hc 2 (by simp)
  have h3 := hc 3 (by simp)
  have h4 := hc 4 (by simp)
  simp at h0 h1 h2 h3 h4
  clear hc h
  go_enter Tryz.func103, Tryz.ntmps103
  go_wp2_with fail
  go_region
  all_goals
    go_wp2_with fail
    refine bodyPost_ret (v := .agg #[.int .i64 t0, .int .i64 t1, .int .i64 t2, .int .i64 t3, .int .i64 t4]) (by simp [results, Tryz.results103, go_sem]) rfl ⟨rfl, (by repeat (first | with_reducible exact Below.refl _ _ | with_reducible assumption | (with_reducible refine Below.drew ?_) | (with_reducible refine below_drewN ?_ _) | ((with_reducible refine Below.alloc ?_ ?_ _); rotate_left; (focus (first | omega | (simp; omega) | simp))) | ((with_reducible refine Below.setCell ?_ ?_ _); rotate_left; (focus (first | omega | (simp; omega) | simp))) | (refine Below.trans ?_ (Below.mono (by assumption) (by first | omega | (simp; omega) | simp)))))⟩
set_option maxRecDepth 100000 in
theorem specl04Sound_is (A : Option Addr) (c : Nat) (t0 t1 t2 t3 t4 : Int) (w : World) (h : SlAt encI 1 w A [t0, t1, t2, t3, t4]) :
    Calls Tryz.prog 91 #[.slice A 5 c] w fun e w' => e = .returned (.agg #[.int .i64 t0, .int .i64 t1, .int .i64 t2, .int .i64 t3, .int .i64 t4]) ∧ Below w.heap.size w w' := by
  obtain ⟨b, o, rfl, hb, hc⟩ := h.getA (by simp)
  have h0 := hc 0 (by simp)
  have h1 := hc 1 (by simp)
  have h2 := hc 2 (by simp)
  have h3 := hc 3 (by simp)
  have h4 := hc 4 (by simp)
  simp at h0 h1 h2 h3 h4
  clear hc h
  go_enter Tryz.func91, Tryz.ntmps91
  go_wp2_with fail
  go_region
  all_goals
    go_wp2_with fail
    refine bodyPost_ret (v := .agg #[.int .i64 t0, .int .i64 t1, .int .i64 t2, .int .i64 t3, .int .i64 t4]) (by simp [results, Tryz.results91, go_sem]) rfl ⟨rfl, (by repeat (first | with_reducible exact Below.refl _ _ | with_reducible assumption | (with_reducible refine Below.drew ?_) | (with_reducible refine below_drewN ?_ _) | ((with_reducible refine Below.alloc ?_ ?_ _); rotate_left; (focus (first | omega | (simp; omega) | simp))) | ((with_reducible refine Below.setCell ?_ ?_ _); rotate_left; (focus (first | omega | (simp; omega) | simp))) | (refine Below.trans ?_ (Below.mono (by assumption) (by first | omega | (simp; omega) | simp)))))⟩
set_option maxRecDepth 100000 in
theorem ValidSound_is (t0 t1 t2 t3 t4 : Int) (w : World) : Calls Tryz.prog 104 #[.agg #[.int .i64 t0, .int .i64 t1, .int .i64 t2, .int .i64 t3, .int .i64 t4]] w fun e w' => e = .returned (.bool (dc (SoundOK [t0, t1, t2, t3, t4]))) ∧ Below w.heap.size w w' := by
  by_cases hall : AllF [t0, t1, t2, t3, t4] ∧ t0 < t1 ∧ t1 < t2 ∧ t2 < t3 ∧ t3 < t4
  · have E := hide (dc_true (sound_all.2 hall))
    have EF := hide (dc_true hall.1)
    obtain ⟨_, k1, k2, k3, k4⟩ := hall
    go_enter Tryz.func104, Tryz.ntmps104
    go_wp2_with fail
    refine (listOf_is _ _ _ _ _ _).mono ?_
    rintro e w2 ⟨b2, rfl, ho2, hb2⟩
    have HS := hide (ho2.sl rfl)
    have q0 := hb2.cell (p := ⟨w.heap.size, 0, none⟩) (by simp)
    have q1 := hb2.cell (p := ⟨w.heap.size, 1, none⟩) (by simp)
    have q2 := hb2.cell (p := ⟨w.heap.size, 2, none⟩) (by simp)
    have q3 := hb2.cell (p := ⟨w.heap.size, 3, none⟩) (by simp)
    have q4 := hb2.cell (p := ⟨w.heap.size, 4, none⟩) (by simp)
    simp at q0 q1 q2 q3 q4
    have HB := hide (Below.trans (show Below w.heap.size w (w.alloc (.cells #[.int .i64 t0, .int .i64 t1, .int .i64 t2, .int .i64 t3, .int .i64 t4] 32)) from (by repeat (first | with_reducible exact Below.refl _ _ | with_reducible assumption | (with_reducible refine Below.drew ?_) | (with_reducible refine below_drewN ?_ _) | ((with_reducible refine Below.alloc ?_ ?_ _); rotate_left; (focus (first | omega | (simp; omega) | simp))) | ((with_reducible refine Below.setCell ?_ ?_ _); rotate_left; (focus (first | omega | (simp; omega) | simp))) | (refine Below.trans ?_ (Below.mono (by assumption) (by first | omega | (simp; omega) | simp)))))) (hb2.mono (by simp)))
    clear ho2 hb2
    go_wp2_with (go_at_call 157; refine (areFreq_is (xs := [t0, t1, t2, t3, t4]) _ _ _ HS.out (by simp)).mono ?_; rintro e w3 ⟨rfl, rfl⟩; rw [EF.out])
    go_ret
    exact ⟨ret_bool (by first | exact E.out.symm | (rw [E.out]; simp; omega)), HB.out⟩
  · have E := hide (dc_false (fun h => hall (sound_all.1 h)))
    cases hf : dc (AllF [t0, t1, t2, t3, t4])
    · have EF := hide hf
      clear hall hf
      go_enter Tryz.func104, Tryz.ntmps104
      go_wp2_with fail
      refine (listOf_is _ _ _ _ _ _).mono ?_
      rintro e w2 ⟨b2, rfl, ho2, hb2⟩
      have HS := hide (ho2.sl rfl)
      have q0 := hb2.cell (p := ⟨w.heap.size, 0, none⟩) (by simp)
      have q1 := hb2.cell (p := ⟨w.heap.size, 1, none⟩) (by simp)
      have q2 := hb2.cell (p := ⟨w.heap.size, 2, none⟩) (by simp)
      have q3 := hb2.cell (p := ⟨w.heap.size, 3, none⟩) (by simp)
      have q4 := hb2.cell (p := ⟨w.heap.size, 4, none⟩) (by simp)
      simp at q0 q1 q2 q3 q4
      have HB := hide (Below.trans (show Below w.heap.size w (w.alloc (.cells #[.int .i64 t0, .int .i64 t1, .int .i64 t2, .int .i64 t3, .int .i64 t4] 32)) from (by repeat (first | with_reducible exact Below.refl _ _ | with_reducible assumption | (with_reducible refine Below.drew ?_) | (with_reducible refine below_drewN ?_ _) | ((with_reducible refine Below.alloc ?_ ?_ _); rotate_left; (focus (first | omega | (simp; omega) | simp))) | ((with_reducible refine Below.setCell ?_ ?_ _); rotate_left; (focus (first | omega | (simp; omega) | simp))) | (refine Below.trans ?_ (Below.mono (by assumption) (by first | omega | (simp; omega) | simp)))))) (hb2.mono (by simp)))
      clear ho2 hb2
      go_wp2_with (go_at_call 157; refine (areFreq_is (xs := [t0, t1, t2, t3, t4]) _ _ _ HS.out (by simp)).mono ?_; rintro e w3 ⟨rfl, rfl⟩; rw [EF.out])
      go_ret
      exact ⟨ret_bool (by first | exact E.out.symm | (rw [E.out]; simp; omega)), HB.out⟩
    · have EF := hide hf
      have hall2 : ¬ (t0 < t1 ∧ t1 < t2 ∧ t2 < t3 ∧ t3 < t4) := fun h => hall ⟨of_dc hf, h⟩
      clear hall hf
      by_cases k1 : t0 < t1
      · by_cases k2 : t1 < t2
        · by_cases k3 : t2 < t3
          · by_cases k4 : t3 < t4
            · exact absurd ⟨k1, k2, k3, k4⟩ hall2
            · clear hall2
              go_enter Tryz.func104, Tryz.ntmps104
              go_wp2_with fail
              refine (listOf_is _ _ _ _ _ _).mono ?_
              rintro e w2 ⟨b2, rfl, ho2, hb2⟩
              have HS := hide (ho2.sl rfl)
              have q0 := hb2.cell (p := ⟨w.heap.size, 0, none⟩) (by simp)
              have q1 := hb2.cell (p := ⟨w.heap.size, 1, none⟩) (by simp)
              have q2 := hb2.cell (p := ⟨w.heap.size, 2, none⟩) (by simp)
              have q3 := hb2.cell (p := ⟨w.heap.size, 3, none⟩) (by simp)
              have q4 := hb2.cell (p := ⟨w.heap.size, 4, none⟩) (by simp)
              simp at q0 q1 q2 q3 q4
              have HB := hide (Below.trans (show Below w.heap.size w (w.alloc (.cells #[.int .i64 t0, .int .i64 t1, .int .i64 t2, .int .i64 t3, .int .i64 t4] 32)) from (by repeat (first | with_reducible exact Below.refl _ _ | with_reducible assumption | (with_reducible refine Below.drew ?_) | (with_reducible refine below_drewN ?_ _) | ((with_reducible refine Below.alloc ?_ ?_ _); rotate_left; (focus (first | omega | (simp; omega) | simp))) | ((with_reducible refine Below.setCell ?_ ?_ _); rotate_left; (focus (first | omega | (simp; omega) | simp))) | (refine Below.trans ?_ (Below.mono (by assumption) (by first | omega | (simp; omega) | simp)))))) (hb2.mono (by simp)))
              clear ho2 hb2
              go_wp2_with (go_at_call 157; refine (areFreq_is (xs := [t0, t1, t2, t3, t4]) _ _ _ HS.out (by simp)).mono ?_; rintro e w3 ⟨rfl, rfl⟩; rw [EF.out])
              go_ret
              exact ⟨ret_bool (by first | exact E.out.symm | (rw [E.out]; simp; omega)), HB.out⟩
          · clear hall2
            go_enter Tryz.func104, Tryz.ntmps104
            go_wp2_with fail
            refine (listOf_is _ _ _ _ _ _).mono ?_
            rintro e w2 ⟨b2, rfl, ho2, hb2⟩
            have HS := hide (ho2.sl rfl)
            have q0 := hb2.cell (p := ⟨w.heap.size, 0, none⟩) (by simp)
            have q1 := hb2.cell (p := ⟨w.heap.size, 1, none⟩) (by simp)
            have q2 := hb2.cell (p := ⟨w.heap.size, 2, none⟩) (by simp)
            have q3 := hb2.cell (p := ⟨w.heap.size, 3, none⟩) (by simp)
            have q4 := hb2.cell (p := ⟨w.heap.size, 4, none⟩) (by simp)
            simp at q0 q1 q2 q3 q4
            have HB := hide (Below.trans (show Below w.heap.size w (w.alloc (.cells #[.int .i64 t0, .int .i64 t1, .int .i64 t2, .int .i64 t3, .int .i64 t4] 32)) from (by repeat (first | with_reducible exact Below.refl _ _ | with_reducible assumption | (with_reducible refine Below.drew ?_) | (with_reducible refine below_drewN ?_ _) | ((with_reducible refine Below.alloc ?_ ?_ _); rotate_left; (focus (first | omega | (simp; omega) | simp))) | ((with_reducible refine Below.setCell ?_ ?_ _); rotate_left; (focus (first | omega | (simp; omega) | simp))) | (refine Below.trans ?_ (Below.mono (by assumption) (by first | omega | (simp; omega) | simp)))))) (hb2.mono (by simp)))
            clear ho2 hb2
            go_wp2_with (go_at_call 157; refine (areFreq_is (xs := [t0, t1, t2, t3, t4]) _ _ _ HS.out (by simp)).mono ?_; rintro e w3 ⟨rfl, rfl⟩; rw [EF.out])
            go_ret
            exact ⟨ret_bool (by first | exact E.out.symm | (rw [E.out]; simp; omega)), HB.out⟩
        · clear hall2
          go_enter Tryz.func104, Tryz.ntmps104
          go_wp2_with fail
          refine (listOf_is _ _ _ _ _ _).mono ?_
          rintro e w2 ⟨b2, rfl, ho2, hb2⟩
          have HS := hide (ho2.sl rfl)
          have q0 := hb2.cell (p := ⟨w.heap.size, 0, none⟩) (by simp)
          have q1 := hb2.cell (p := ⟨w.heap.size, 1, none⟩) (by simp)
          have q2 := hb2.cell (p := ⟨w.heap.size, 2, none⟩) (by simp)
          have q3 := hb2.cell (p := ⟨w.heap.size, 3, none⟩) (by simp)
          have q4 := hb2.cell (p := ⟨w.heap.size, 4, none⟩) (by simp)
          simp at q0 q1 q2 q3 q4
          have HB := hide (Below.trans (show Below w.heap.size w (w.alloc (.cells #[.int .i64 t0, .int .i64 t1, .int .i64 t2, .int .i64 t3, .int .i64 t4] 32)) from (by repeat (first | with_reducible exact Below.refl _ _ | with_reducible assumption | (with_reducible refine Below.drew ?_) | (with_reducible refine below_drewN ?_ _) | ((with_reducible refine Below.alloc ?_ ?_ _); rotate_left; (focus (first | omega | (simp; omega) | simp))) | ((with_reducible refine Below.setCell ?_ ?_ _); rotate_left; (focus (first | omega | (simp; omega) | simp))) | (refine Below.trans ?_ (Below.mono (by assumption) (by first | omega | (simp; omega) | simp)))))) (hb2.mono (by simp)))
          clear ho2 hb2
          go_wp2_with (go_at_call 157; refine (areFreq_is (xs := [t0, t1, t2, t3, t4]) _ _ _ HS.out (by simp)).mono ?_; rintro e w3 ⟨rfl, rfl⟩; rw [EF.out])
          go_ret
          exact ⟨ret_bool (by first | exact E.out.symm | (rw [E.out]; simp; omega)), HB.out⟩
      · clear hall2
        go_enter Tryz.func104, Tryz.ntmps104
        go_wp2_with fail
        refine (listOf_is _ _ _ _ _ _).mono ?_
        rintro e w2 ⟨b2, rfl, ho2, hb2⟩
        have HS := hide (ho2.sl rfl)
        have q0 := hb2.cell (p := ⟨w.heap.size, 0, none⟩) (by simp)
        have q1 := hb2.cell (p := ⟨w.heap.size, 1, none⟩) (by simp)
        have q2 := hb2.cell (p := ⟨w.heap.size, 2, none⟩) (by simp)
        have q3 := hb2.cell (p := ⟨w.heap.size, 3, none⟩) (by simp)
        have q4 := hb2.cell (p := ⟨w.heap.size, 4, none⟩) (by simp)
        simp at q0 q1 q2 q3 q4
        have HB := hide (Below.trans (show Below w.heap.size w (w.alloc (.cells #[.int .i64 t0, .int .i64 t1, .int .i64 t2, .int .i64 t3, .int .i64 t4] 32)) from (by repeat (first | with_reducible exact Below.refl _ _ | with_reducible assumption | (with_reducible refine Below.drew ?_) | (with_reducible refine below_drewN ?_ _) | ((with_reducible refine Below.alloc ?_ ?_ _); rotate_left; (focus (first | omega | (simp; omega) | simp))) | ((with_reducible refine Below.setCell ?_ ?_ _); rotate_left; (focus (first | omega | (simp; omega) | simp))) | (refine Below.trans ?_ (Below.mono (by assumption) (by first | omega | (simp; omega) | simp)))))) (hb2.mono (by simp)))
        clear ho2 hb2
        go_wp2_with (go_at_call 157; refine (areFreq_is (xs := [t0, t1, t2, t3, t4]) _ _ _ HS.out (by simp)).mono ?_; rintro e w3 ⟨rfl, rfl⟩; rw [EF.out])
        go_ret
        exact ⟨ret_bool (by first | exact E.out.symm | (rw [E.out]; simp; omega)), HB.out⟩
set_option maxRecDepth 100000 in
theorem l04Ok_is (bl off : Nat) (t0 t1 t2 t3 t4 : Int) (w : World) (c0 : w.cell? ⟨bl, off, none⟩ = some (.int .i64 t0)) (c1 : w.cell? ⟨bl, off + 1, none⟩ = some (.int .i64 t1)) (c2 : w.cell? ⟨bl, off + 2, none⟩ = some (.int .i64 t2)) (c3 : w.cell? ⟨bl, off + 3, none⟩ = some (.int .i64 t3)) (c4 : w.cell? ⟨bl, off + 4, none⟩ = some (.int .i64 t4)) :
    Calls Tryz.prog 185 #[.pointer (some ⟨bl, off, none⟩)] w fun e w' => e = .returned (.bool (dc (SoundOK [t0, t1, t2, t3, t4]))) ∧ Below w.heap.size w w' := by
  rw [show dc (SoundOK [t0, t1, t2, t3, t4]) = dc (Rises [t0, t1, t2, t3, t4] 10000 20000000) by rw [show SoundOK [t0, t1, t2, t3, t4] = Rises [t0, t1, t2, t3, t4] 10000 20000000 from propext sound_iff]]
  have HC := hide (l04List_is bl off t0 t1 t2 t3 t4 w c0 c1 c2 c3 c4)
  go_enter Tryz.func185, Tryz.ntmps185
  go_wp2_with fail
  refine HC.out.mono ?_
  rintro e w2 ⟨b2, rfl, ho2, hb2⟩
  have HS := hide (ho2.sl rfl)
  have HB := hide hb2
  clear ho2 hb2 HC
  go_wp2_with (go_at_call 184; refine (l00Rises_is (xs := [t0, t1, t2, t3, t4]) _ _ _ _ _ HS.out (by simp)).mono ?_; rintro e w3 ⟨rfl, hb3⟩)
  go_ret
  exact ⟨rfl, HB.out.trans (hb3.mono HB.out.size)⟩
/-- A row of five in the call's own memory. -/
def RowRes (xs : List Int) (w : World) (e : Ending) (w' : World) : Prop := ∃ A c, e = .returned (.slice A xs.length c) ∧ OwnI w' w.heap.size (.slice A xs.length c) xs ∧ Below w.heap.size w w'
theorem devs_take (t l : List Int) (k : Nat) (h : k < 5) : (devs t l).take (k + 1) = (devs t l).take k ++ [ctB (ig t k) (ig l k)] := by
  rw [List.take_succ_eq_append_getElem (by rw [devs_length]; exact h), ig_eq (by rw [devs_length]; exact h), devs_get t l k h]
def InF (xs : List Int) : Prop := ∀ k, k < 5 → 1 ≤ ig xs k ∧ ig xs k ≤ 100000000
theorem SoundOK.inF {xs : List Int} (h : SoundOK xs) : InF xs := fun k hk => by have := h.at_ k hk; omega
set_option maxRecDepth 100000 in
set_option maxHeartbeats 1000000 in
theorem apart_is (t0 t1 t2 t3 t4 s0 s1 s2 s3 s4 : Int) (w : World) (HT : Hid (InF [t0, t1, t2, t3, t4])) (HS : Hid (InF [s0, s1, s2, s3, s4])) :
    Calls Tryz.prog 50 #[.agg #[.int .i64 t0, .int .i64 t1, .int .i64 t2, .int .i64 t3, .int .i64 t4], .agg #[.int .i64 s0, .int .i64 s1, .int .i64 s2, .int .i64 s3, .int .i64 s4]] w (RowRes (devs [t0, t1, t2, t3, t4] [s0, s1, s2, s3, s4]) w) := by
  go_enter Tryz.func50, Tryz.ntmps50
  go_wp2_with fail
  refine (listOf_is _ _ _ _ _ _).mono ?_
  rintro e w2 ⟨b2, rfl, ho2, hb2⟩
  have HO2 := hide (ho2.sl rfl)
  have q0 := hb2.cell (p := ⟨w.heap.size, 0, none⟩) (by first | (simp; done) | (simp; omega))
  have q1 := hb2.cell (p := ⟨w.heap.size, 1, none⟩) (by first | (simp; done) | (simp; omega))
  have q2 := hb2.cell (p := ⟨w.heap.size, 2, none⟩) (by first | (simp; done) | (simp; omega))
  have q3 := hb2.cell (p := ⟨w.heap.size, 3, none⟩) (by first | (simp; done) | (simp; omega))
  have q4 := hb2.cell (p := ⟨w.heap.size, 4, none⟩) (by first | (simp; done) | (simp; omega))
  simp at q0 q1 q2 q3 q4
  have HB2 := hide (Below.trans (show Below w.heap.size w ((w.alloc (.cells #[.int .i64 t0, .int .i64 t1, .int .i64 t2, .int .i64 t3, .int .i64 t4] 32)).alloc (.cells #[.int .i64 s0, .int .i64 s1, .int .i64 s2, .int .i64 s3, .int .i64 s4] 32)) from (by repeat (first | with_reducible exact Below.refl _ _ | with_reducible assumption | (with_reducible refine Below.drew ?_) | (with_reducible refine below_drewN ?_ _) | ((with_reducible refine Below.alloc ?_ ?_ _); rotate_left; (focus (first | omega | (simp; omega) | simp))) | ((with_reducible refine Below.setCell ?_ ?_ _); rotate_left; (focus (first | omega | (simp; omega) | simp))) | (refine Below.trans ?_ (Below.mono (by assumption) (by first | omega | (simp; omega) | simp)))))) (hb2.mono (by first | (simp; done) | (simp; omega))))
  clear ho2 hb2
  go_wp2_with fail
  refine (listOf_is _ _ _ _ _ _).mono ?_
  rintro e w3 ⟨b3, rfl, ho3, hb3⟩
  have HO3 := hide (ho3.sl rfl)
  have HO4 := hide (HO2.out.below hb3)
  have HB3 := hide (HB2.out.trans (hb3.mono HB2.out.size))
  clear ho3 hb3 HO2 HB2 q0 q1 q2 q3 q4
  generalize hT : [t0, t1, t2, t3, t4] = T at *
  generalize hR : [s0, s1, s2, s3, s4] = R at *
  have hl3 : T.length = 5 := by rw [← hT]; rfl
  have hl4 : R.length = 5 := by rw [← hR]; rfl
  have HL := hide (And.intro hl3 hl4)
  clear hT hR hl3 hl4
  go_wp2_with fail
  go_loopw [14, 5] (fun v o wr => ∃ (k : Nat) (A : Option Addr) (c : Nat) (ys : List Int), v = .int .i64 k ∧ o = .slice A ys.length c ∧ k ≤ 5 ∧ ys.length = k ∧ Hid (ys = (devs T R).take k) ∧ Hid (OwnI wr w3.heap.size (.slice A ys.length c) ys) ∧ Hid (Below w3.heap.size w3 wr)) (fun v _ _ => 5 - (intOf v).toNat)
  case atStart => exact ⟨0, none, 0, [], rfl, rfl, by omega, rfl, hide (by simp), hide Own.nil, hide (Below.refl _ _)⟩
  case round =>
    obtain ⟨k, A, c, ys, rfl, rfl, hk, hy, HY, HO, HB⟩ := hrel
    have hz := HB.out.size
    have HLY := hide hy
    by_cases hlt : k < 5
    · obtain ⟨bt, ot, et, hbt, hct⟩ := (HO3.out.below HB.out).getA (by have := HL.out; omega)
      obtain ⟨br, or_, er, hbr, hcr⟩ := (HO4.out.below HB.out).getA (by have := HL.out; omega)
      injection et with et; injection et with et1 et2; subst et1; subst et2
      injection er with er; injection er with er1 er2; subst er1; subst er2
      have ht := hct k (by have := HL.out; omega)
      have hr := hcr k (by have := HL.out; omega)
      simp only [Nat.zero_add] at ht hr
      obtain ⟨g1, g2⟩ := HT.out k hlt
      obtain ⟨g3, g4⟩ := HS.out k hlt
      have HN := hide (show ys ++ [ctB (ig T k) (ig R k)] = (devs T R).take (k + 1) from by rw [HY.out, devs_take T R k hlt])
      have HC := hide (implcents_is (ig T k) (ig R k) wr g1 g2 g3 g4)
      clear hct hcr hy HY
      generalize ctB (ig T k) (ig R k) = d at *
      generalize ig T k = f at *
      generalize ig R k = g at *
      go_wp2_with fail
      refine HC.out.mono ?_
      rintro e w5 ⟨rfl, rfl⟩
      clear HC
      go_wp2_with (at_builtin; refine wpList_appI rfl _ _ rfl w3.heap.size rfl HO.out rfl (by have := HLY.out; omega) ?_ ?_; (focus (exact hz)); intro A5 c5 w5 ho5 hb5 _hg5; have HO5 := hide ho5; have HB5 := hide hb5; clear ho5 hb5)
      go_roundw
      case rel => exact ⟨k + 1, A5, c5, ys ++ [d], by go_num, by simp, by omega, by simp [HLY.out], HN, hide (by simpa using HO5.out), hide (HB.out.trans HB5.out)⟩
      case measure => simp [intOf]; omega
    · have he : ys = devs T R := by rw [HY.out, List.take_of_length_le (by rw [devs_length]; omega)]
      have hz3 := HB3.out.size
      have HE := hide hz3
      clear hy HY HLY
      subst he
      go_wp2_with fail
      go_ret
      exact ⟨A, c, rfl, HO.out.mono HE.out, HB3.out.trans (HB.out.mono HE.out)⟩
theorem gr_at {l : List Int} {k i : Nat} (h : absI (ig l i) = gr l k) (hlt : absI (ig l i) < absI (ig l k)) : absI (ig l k) = gr l (k + 1) := by
  unfold gr; rw [← h, if_pos hlt]
theorem gr_keep {l : List Int} {k i : Nat} (h : absI (ig l i) = gr l k) (hlt : ¬ absI (ig l i) < absI (ig l k)) : absI (ig l i) = gr l (k + 1) := by
  unfold gr; rw [← h, if_neg hlt]
set_option maxRecDepth 100000 in
theorem worst_is (A : Option Addr) (c : Nat) (xs : List Int) (w : World) (h : SlAt encI 1 w A xs) (hn : xs.length ≤ 1048576) (h0 : 0 < xs.length) (HB0 : Hid (∀ k, k < xs.length → -4000000000000000000 ≤ ig xs k ∧ ig xs k ≤ 4000000000000000000)) :
    Calls Tryz.prog 106 #[.slice A xs.length c] w fun e w' => ∃ i : Nat, e = .returned (.int .i64 i) ∧ i < xs.length ∧ absI (ig xs i) = grB xs ∧ Below w.heap.size w w' := by
  have HX := hide h
  clear h
  go_enter Tryz.func106, Tryz.ntmps106
  go_wp2_with fail
  go_loopw [8, 3] (fun v a wr => ∃ k i : Nat, v = .int .i64 k ∧ a = .int .i64 i ∧ k ≤ xs.length ∧ i < xs.length ∧ (k = 0 → i = 0) ∧ Hid (k ≠ 0 → absI (ig xs i) = gr xs k) ∧ Hid (Below w.heap.size w wr)) (fun v _ _ => xs.length - (intOf v).toNat)
  case atStart => exact ⟨0, 0, rfl, rfl, by omega, h0, fun _ => rfl, hide fun h => absurd rfl h, hide (Below.refl _ _)⟩
  case round =>
    obtain ⟨k, i, rfl, rfl, hk, hi, hki, HJ, HB⟩ := hrel
    have hz := HB.out.size
    by_cases hlt : k < xs.length
    · obtain ⟨b, o, rfl, hb, hc⟩ := (HX.out.below HB.out).getA h0
      have hck := hc k hlt
      have hci := hc i hi
      have hbk := HB0.out k hlt
      have hbi := HB0.out i hi
      have HS1 := hide (show absI (ig xs i) < absI (ig xs k) → absI (ig xs k) = gr xs (k + 1) from fun hl => by
        by_cases e : k = 0
        · have := hki e; subst e; subst this; omega
        · exact gr_at (HJ.out e) hl)
      have HS2 := hide (show ¬ absI (ig xs i) < absI (ig xs k) → absI (ig xs i) = gr xs (k + 1) from fun hl => by
        by_cases e : k = 0
        · have := hki e; subst e; subst this
          unfold gr gr
          have := absI_nonneg (ig xs 0)
          split <;> omega
        · exact gr_keep (HJ.out e) hl)
      clear hc HJ hki
      have HXY := hide (show ∃ x y, x = ig xs k ∧ y = ig xs i from ⟨_, _, rfl, rfl⟩)
      obtain ⟨x, y, hx, hy⟩ := HXY.out
      rw [← hx] at hck hbk
      rw [← hy] at hci hbi
      rw [← hx, ← hy] at HS1 HS2
      have HXX := hide (And.intro hx hy)
      clear hx hy HXY
      by_cases hl : absI y < absI x
      · have E := hide (HS1.out hl)
        clear HS1 HS2
        go_wp2_with fail
        refine wp_region_kept (by kernel_rfl) (by kernel_rfl) ?_
        intro gc gf gz
        repeat (go_big_quiet_step ((go_at_call 105; exact Calls.kept_same (abs_is _ (by omega) _))))
        refine wpQuiet_nil ?_
        intro w1 hw'
        obtain ⟨⟨_, hb1⟩, rfl⟩ := hw'
        clear gc gf gz
        try dsimp only
        have fs1 := hb1.size
        try simp at fs1 hb1
        go_wp2_with fail
        go_roundw
        case rel => exact ⟨k + 1, k, by go_num, rfl, by omega, hlt, by omega, hide fun _ => by first | (rw [← HXX.out.1]; exact E.out) | (rw [← HXX.out.2]; exact E.out), hide (HB.out.trans (hb1.mono hz))⟩
        case measure => simp [intOf]; omega
      · have E := hide (HS2.out hl)
        clear HS1 HS2
        go_wp2_with fail
        refine wp_region_kept (by kernel_rfl) (by kernel_rfl) ?_
        intro gc gf gz
        repeat (go_big_quiet_step ((go_at_call 105; exact Calls.kept_same (abs_is _ (by omega) _))))
        refine wpQuiet_nil ?_
        intro w1 hw'
        obtain ⟨⟨_, hb1⟩, rfl⟩ := hw'
        clear gc gf gz
        try dsimp only
        have fs1 := hb1.size
        try simp at fs1 hb1
        go_wp2_with fail
        go_roundw
        case rel => exact ⟨k + 1, i, by go_num, rfl, by omega, hi, by omega, hide fun _ => by first | (rw [← HXX.out.1]; exact E.out) | (rw [← HXX.out.2]; exact E.out), hide (HB.out.trans (hb1.mono hz))⟩
        case measure => simp [intOf]; omega
    · have E := hide (show absI (ig xs i) = grB xs from by
        rw [HJ.out (by omega), show k = xs.length by omega]; unfold grB; rfl)
      clear HJ hki
      go_wp2_with fail
      go_ret
      exact ⟨i, rfl, hi, E.out, HB.out⟩
set_option maxRecDepth 100000 in
theorem greatest_is (A : Option Addr) (c : Nat) (xs : List Int) (w : World) (h : SlAt encI 1 w A xs) (hn : xs.length ≤ 1048576) (h0 : 0 < xs.length) (HB0 : Hid (∀ k, k < xs.length → -4000000000000000000 ≤ ig xs k ∧ ig xs k ≤ 4000000000000000000)) :
    Calls Tryz.prog 49 #[.slice A xs.length c] w fun e w' => e = .returned (.int .i64 (grB xs)) ∧ Below w.heap.size w w' := by
  have HX := hide h
  clear h
  go_enter Tryz.func49, Tryz.ntmps49
  go_wp2_with fail
  refine (worst_is A c xs w HX.out hn h0 HB0).mono ?_
  rintro e w2 ⟨i, rfl, hi, he, hb2⟩
  obtain ⟨b, o, rfl, hb, hc⟩ := (HX.out.below hb2).getA h0
  have hci := hc i hi
  have hbi := HB0.out i hi
  have HE := hide he
  have HB2 := hide hb2
  clear hc he hb2
  generalize ig xs i = x at *
  go_wp2_with (go_at_call 105; refine (abs_is _ (by omega) _).mono ?_; rintro e w3 ⟨rfl, rfl⟩)
  go_ret
  exact ⟨ret_int HE.out, HB2.out⟩
end Go.Proofs.YtnefgafmnpblpaaGreat
