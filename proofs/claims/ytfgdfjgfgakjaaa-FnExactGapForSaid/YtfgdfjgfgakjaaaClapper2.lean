/- Contracts of the functions that take or give a clapper. -/
import Derived.Test.YtfgdfjgfgakjaaaClapper
namespace Go.Proofs.Ytfgdfjgfgakjaaa
open Go.RowKit

def vClap (a b c : Int) : Bool := inB a 10 1000000 && inB b 1000 300000 && inB c 10 50000
theorem vClap_true {a b c : Int} (h : vClap a b c = true) : (10 ≤ a ∧ a ≤ 1000000) ∧ (1000 ≤ b ∧ b ≤ 300000) ∧ 10 ≤ c ∧ c ≤ 50000 := by
  unfold vClap at h
  simp only [Bool.and_eq_true] at h
  exact ⟨inB_true h.1.1, inB_true h.1.2, inB_true h.2⟩

theorem implValidClapper (a b c : Int) (w : World) : Calls Try.prog 69 #[.agg #[.int .i64 a, .int .i64 b, .int .i64 c]] w fun e w' =>
    e = .returned (.bool (vClap a b c)) ∧ w.alloc (.cells #[.int .i64 a, .int .i64 b, .int .i64 c] 39) = w' := by
  have e : Hid (vClap a b c = (inB a 10 1000000 && inB b 1000 300000 && inB c 10 50000)) := hide rfl
  cases h1 : inB a 10 1000000 <;> cases h2 : inB b 1000 300000 <;> cases h3 : inB c 10 50000
  all_goals
    go_enter Try.func69, Try.ntmps69
    go_wp2_with (go_at_call 56; refine (implwithin_any _ _ _ _).mono ?_; rintro e w' ⟨rfl, rfl⟩)
    go_ret
    exact ⟨ret_bool (by rw [e.out, h1, h2, h3]; rfl), rfl⟩
theorem specl20Ok (bl : Nat) (a b c : Int) (w : World) (c0 : w.cell? ⟨bl, 0, none⟩ = some (.int .i64 a)) (c1 : w.cell? ⟨bl, 1, none⟩ = some (.int .i64 b)) (c2 : w.cell? ⟨bl, 2, none⟩ = some (.int .i64 c)) :
    Calls Try.prog 66 #[.pointer (some ⟨bl, 0, none⟩)] w fun e w' => e = .returned (.bool (vClap a b c)) ∧ w = w' := by
  have e : Hid (vClap a b c = (inB a 10 1000000 && inB b 1000 300000 && inB c 10 50000)) := hide rfl
  cases h1 : inB a 10 1000000 <;> cases h2 : inB b 1000 300000 <;> cases h3 : inB c 10 50000
  all_goals
    go_enter Try.func66, Try.ntmps66
    go_wp2_with (go_at_call 59; refine (specl00In_any _ _ _ _).mono ?_; rintro e w' ⟨rfl, rfl⟩)
    go_ret
    exact ⟨ret_bool (by rw [e.out, h1, h2, h3]; rfl), rfl⟩
theorem lawstoClapper (a b c : Int) (w : World) : Calls Try.prog 32 #[.agg #[.int .i64 a, .int .i64 b, .int .i64 c]] w fun e w' =>
    e = .returned (.agg #[.int .i64 a, .int .i64 b, .int .i64 c]) ∧ Below w.heap.size w w' := by
  go_enter Try.func32, Try.ntmps32
  go_wp2
  refine bodyPost_ret (v := .agg #[.int .i64 a, .int .i64 b, .int .i64 c]) (by simp [results, Try.results32, go_sem]) rfl ⟨rfl, (by repeat (first | exact Below.refl _ _ | refine Below.alloc ?_ (by first | omega | (simp; omega) | simp) _ | refine Below.drew ?_ | refine below_drewN ?_ _ | refine Below.setCell ?_ (by first | omega | (simp; omega) | simp) _ | (refine Below.trans ?_ (Below.mono (by assumption) (by first | omega | (simp; omega) | simp)))))⟩

/-- The clapper for a bell: mass, length, gap, code. -/
@[irreducible] def clapFor (m h r : Int) : Int × Int × Int × Int :=
  if inB m 1 30000000 && inB h 1 300000 && inB r 1 300000 then
    if vClap (mx 10 (Pl.nr (3 * m) 100)) (mx 1000 (Pl.nr (9 * h) 10)) (mx 10 (Pl.nr r 5)) then (mx 10 (Pl.nr (3 * m) 100), mx 1000 (Pl.nr (9 * h) 10), mx 10 (Pl.nr r 5), 0) else (0, 0, 0, 2)
  else (0, 0, 0, 2)
theorem ret_clap {a b c d : Int} {p : Int × Int × Int × Int} (h : p = (a, b, c, d)) : Ending.returned (.tuple #[.agg #[.int .i64 a, .int .i64 b, .int .i64 c], .int .i64 d]) =
    .returned (.tuple #[.agg #[.int .i64 p.1, .int .i64 p.2.1, .int .i64 p.2.2.1], .int .i64 p.2.2.2]) := by subst h; rfl
theorem implClapperFor (m h r : Int) (w : World) : Calls Try.prog 25 #[.int .i64 m, .int .i64 h, .int .i64 r] w fun e w' =>
    e = .returned (.tuple #[.agg #[.int .i64 (clapFor m h r).1, .int .i64 (clapFor m h r).2.1, .int .i64 (clapFor m h r).2.2.1], .int .i64 (clapFor m h r).2.2.2]) ∧ Below w.heap.size w w' := by
  cases h1 : inB m 1 30000000
  case true =>
    cases h2 : inB h 1 300000
    case true =>
      cases h3 : inB r 1 300000
      case true =>
        obtain ⟨a1, a2⟩ := inB_true h1
        obtain ⟨b1, b2⟩ := inB_true h2
        obtain ⟨c1, c2⟩ := inB_true h3
        cases hv : vClap (mx 10 (Pl.nr (3 * m) 100)) (mx 1000 (Pl.nr (9 * h) 10)) (mx 10 (Pl.nr r 5))
        · have e : Hid (clapFor m h r = (0, 0, 0, 2)) := by unfold Hid clapFor; simp [h1, h2, h3, hv]
          have fm := fold_mx
          go_enter Try.func25, Try.ntmps25
          go_wp2_with (first
            | (go_at_call 67; refine (implisBellMass_any _ _).mono ?_; rintro e w' ⟨rfl, rfl⟩)
            | (go_at_call 61; refine (implisExtent_any _ _).mono ?_; rintro e w' ⟨rfl, rfl⟩)
            | (go_at_call 68; refine (nearest_any _ _ _ (by omega) (by omega) (by omega) (by omega)).mono ?_; rintro e w' ⟨rfl,n1,rfl⟩)
            | (go_at_call 68; refine (specl00Max _ _ _).mono ?_; rintro e w' ⟨rfl, rfl⟩)
            | (go_at_call 69; refine (implValidClapper _ _ _ _).mono ?_; rintro e w' ⟨rfl, rfl⟩))
          refine bodyPost_ret (v := .tuple #[.agg #[.int .i64 0, .int .i64 0, .int .i64 0], .int .i64 2]) (by simp [results, Try.results25, go_sem]) rfl ⟨ret_clap e.out, (by repeat (first | exact Below.refl _ _ | refine Below.alloc ?_ (by first | omega | (simp; omega) | simp) _ | refine Below.drew ?_ | refine below_drewN ?_ _ | refine Below.setCell ?_ (by first | omega | (simp; omega) | simp) _ | (refine Below.trans ?_ (Below.mono (by assumption) (by first | omega | (simp; omega) | simp)))))⟩
        · have e : Hid (clapFor m h r = (mx 10 (Pl.nr (3 * m) 100), mx 1000 (Pl.nr (9 * h) 10), mx 10 (Pl.nr r 5), 0)) := by unfold Hid clapFor; simp [h1, h2, h3, hv]
          have fm := fold_mx
          go_enter Try.func25, Try.ntmps25
          go_wp2_with (first
            | (go_at_call 67; refine (implisBellMass_any _ _).mono ?_; rintro e w' ⟨rfl, rfl⟩)
            | (go_at_call 61; refine (implisExtent_any _ _).mono ?_; rintro e w' ⟨rfl, rfl⟩)
            | (go_at_call 68; refine (nearest_any _ _ _ (by omega) (by omega) (by omega) (by omega)).mono ?_; rintro e w' ⟨rfl,n1,rfl⟩)
            | (go_at_call 68; refine (specl00Max _ _ _).mono ?_; rintro e w' ⟨rfl, rfl⟩)
            | (go_at_call 69; refine (implValidClapper _ _ _ _).mono ?_; rintro e w' ⟨rfl, rfl⟩))
          refine bodyPost_ret (v := .tuple #[.agg #[.int .i64 (mx 10 (Pl.nr (3 * m) 100)), .int .i64 (mx 1000 (Pl.nr (9 * h) 10)), .int .i64 (mx 10 (Pl.nr r 5))], .int .i64 0]) (by simp [results, Try.results25, go_sem]) rfl ⟨ret_clap e.out, (by repeat (first | exact Below.refl _ _ | refine Below.alloc ?_ (by first | omega | (simp; omega) | simp) _ | refine Below.drew ?_ | refine below_drewN ?_ _ | refine Below.setCell ?_ (by first | omega | (simp; omega) | simp) _ | (refine Below.trans ?_ (Below.mono (by assumption) (by first | omega | (simp; omega) | simp)))))⟩
      case false =>
        have e : Hid (clapFor m h r = (0, 0, 0, 2)) := by unfold Hid clapFor; simp [h1, h2, h3]
        go_enter Try.func25, Try.ntmps25
        go_wp2_with (first
          | (go_at_call 67; refine (implisBellMass_any _ _).mono ?_; rintro e w' ⟨rfl, rfl⟩)
          | (go_at_call 61; refine (implisExtent_any _ _).mono ?_; rintro e w' ⟨rfl, rfl⟩))
        refine bodyPost_ret (v := .tuple #[.agg #[.int .i64 0, .int .i64 0, .int .i64 0], .int .i64 2]) (by simp [results, Try.results25, go_sem]) rfl ⟨ret_clap e.out, (by repeat (first | exact Below.refl _ _ | refine Below.alloc ?_ (by first | omega | (simp; omega) | simp) _ | refine Below.drew ?_ | refine below_drewN ?_ _ | refine Below.setCell ?_ (by first | omega | (simp; omega) | simp) _ | (refine Below.trans ?_ (Below.mono (by assumption) (by first | omega | (simp; omega) | simp)))))⟩
    case false =>
      have e : Hid (clapFor m h r = (0, 0, 0, 2)) := by unfold Hid clapFor; simp [h1, h2]
      go_enter Try.func25, Try.ntmps25
      go_wp2_with (first
        | (go_at_call 67; refine (implisBellMass_any _ _).mono ?_; rintro e w' ⟨rfl, rfl⟩)
        | (go_at_call 61; refine (implisExtent_any _ _).mono ?_; rintro e w' ⟨rfl, rfl⟩))
      refine bodyPost_ret (v := .tuple #[.agg #[.int .i64 0, .int .i64 0, .int .i64 0], .int .i64 2]) (by simp [results, Try.results25, go_sem]) rfl ⟨ret_clap e.out, (by repeat (first | exact Below.refl _ _ | refine Below.alloc ?_ (by first | omega | (simp; omega) | simp) _ | refine Below.drew ?_ | refine below_drewN ?_ _ | refine Below.setCell ?_ (by first | omega | (simp; omega) | simp) _ | (refine Below.trans ?_ (Below.mono (by assumption) (by first | omega | (simp; omega) | simp)))))⟩
  case false =>
    have e : Hid (clapFor m h r = (0, 0, 0, 2)) := by unfold Hid clapFor; simp [h1]
    go_enter Try.func25, Try.ntmps25
    go_wp2_with (first
      | (go_at_call 67; refine (implisBellMass_any _ _).mono ?_; rintro e w' ⟨rfl, rfl⟩)
      | (go_at_call 61; refine (implisExtent_any _ _).mono ?_; rintro e w' ⟨rfl, rfl⟩))
    refine bodyPost_ret (v := .tuple #[.agg #[.int .i64 0, .int .i64 0, .int .i64 0], .int .i64 2]) (by simp [results, Try.results25, go_sem]) rfl ⟨ret_clap e.out, (by repeat (first | exact Below.refl _ _ | refine Below.alloc ?_ (by first | omega | (simp; omega) | simp) _ | refine Below.drew ?_ | refine below_drewN ?_ _ | refine Below.setCell ?_ (by first | omega | (simp; omega) | simp) _ | (refine Below.trans ?_ (Below.mono (by assumption) (by first | omega | (simp; omega) | simp)))))⟩
theorem specClapperFor (m h r : Int) (w : World) : Calls Try.prog 24 #[.int .i64 m, .int .i64 h, .int .i64 r] w fun e w' =>
    e = .returned (.tuple #[.agg #[.int .i64 (clapFor m h r).1, .int .i64 (clapFor m h r).2.1, .int .i64 (clapFor m h r).2.2.1], .int .i64 (clapFor m h r).2.2.2]) ∧ Below w.heap.size w w' := by
  cases h1 : inB m 1 30000000
  case true =>
    cases h2 : inB h 1 300000
    case true =>
      cases h3 : inB r 1 300000
      case true =>
        obtain ⟨a1, a2⟩ := inB_true h1
        obtain ⟨b1, b2⟩ := inB_true h2
        obtain ⟨c1, c2⟩ := inB_true h3
        cases hv : vClap (mx 10 (Pl.nr (3 * m) 100)) (mx 1000 (Pl.nr (9 * h) 10)) (mx 10 (Pl.nr r 5))
        · have e : Hid (clapFor m h r = (0, 0, 0, 2)) := by unfold Hid clapFor; simp [h1, h2, h3, hv]
          have fm := fold_mx
          go_enter Try.func24, Try.ntmps24
          go_wp2_with (first
            | (go_at_call 63; refine (specl20Mass_any _ _).mono ?_; rintro e w' ⟨rfl, rfl⟩)
            | (go_at_call 59; refine (specl00In_any _ _ _ _).mono ?_; rintro e w' ⟨rfl, rfl⟩)
            | (go_at_call 65; refine (l01Div_any _ _ _ (by omega) (by omega) (by omega) (by omega)).mono ?_; rintro e w' ⟨rfl,rfl⟩)
            | (go_at_call 64; refine (specl00Max _ _ _).mono ?_; rintro e w' ⟨rfl, rfl⟩)
            | (go_at_call 66; refine (specl20Ok _ (mx 10 (Pl.nr (3 * m) 100)) (mx 1000 (Pl.nr (9 * h) 10)) (mx 10 (Pl.nr r 5)) _ (by simp) (by simp) (by simp)).mono ?_; rintro e w' ⟨rfl, rfl⟩))
          refine bodyPost_ret (v := .tuple #[.agg #[.int .i64 0, .int .i64 0, .int .i64 0], .int .i64 2]) (by simp [results, Try.results24, go_sem]) rfl ⟨ret_clap e.out, (by repeat (first | exact Below.refl _ _ | refine Below.alloc ?_ (by first | omega | (simp; omega) | simp) _ | refine Below.drew ?_ | refine below_drewN ?_ _ | refine Below.setCell ?_ (by first | omega | (simp; omega) | simp) _ | (refine Below.trans ?_ (Below.mono (by assumption) (by first | omega | (simp; omega) | simp)))))⟩
        · have e : Hid (clapFor m h r = (mx 10 (Pl.nr (3 * m) 100), mx 1000 (Pl.nr (9 * h) 10), mx 10 (Pl.nr r 5), 0)) := by unfold Hid clapFor; simp [h1, h2, h3, hv]
          have fm := fold_mx
          go_enter Try.func24, Try.ntmps24
          go_wp2_with (first
            | (go_at_call 63; refine (specl20Mass_any _ _).mono ?_; rintro e w' ⟨rfl, rfl⟩)
            | (go_at_call 59; refine (specl00In_any _ _ _ _).mono ?_; rintro e w' ⟨rfl, rfl⟩)
            | (go_at_call 65; refine (l01Div_any _ _ _ (by omega) (by omega) (by omega) (by omega)).mono ?_; rintro e w' ⟨rfl,rfl⟩)
            | (go_at_call 64; refine (specl00Max _ _ _).mono ?_; rintro e w' ⟨rfl, rfl⟩)
            | (go_at_call 66; refine (specl20Ok _ (mx 10 (Pl.nr (3 * m) 100)) (mx 1000 (Pl.nr (9 * h) 10)) (mx 10 (Pl.nr r 5)) _ (by simp) (by simp) (by simp)).mono ?_; rintro e w' ⟨rfl, rfl⟩))
          refine bodyPost_ret (v := .tuple #[.agg #[.int .i64 (mx 10 (Pl.nr (3 * m) 100)), .int .i64 (mx 1000 (Pl.nr (9 * h) 10)), .int .i64 (mx 10 (Pl.nr r 5))], .int .i64 0]) (by simp [results, Try.results24, go_sem]) rfl ⟨ret_clap e.out, (by repeat (first | exact Below.refl _ _ | refine Below.alloc ?_ (by first | omega | (simp; omega) | simp) _ | refine Below.drew ?_ | refine below_drewN ?_ _ | refine Below.setCell ?_ (by first | omega | (simp; omega) | simp) _ | (refine Below.trans ?_ (Below.mono (by assumption) (by first | omega | (simp; omega) | simp)))))⟩
      case false =>
        have e : Hid (clapFor m h r = (0, 0, 0, 2)) := by unfold Hid clapFor; simp [h1, h2, h3]
        go_enter Try.func24, Try.ntmps24
        go_wp2_with (first
          | (go_at_call 63; refine (specl20Mass_any _ _).mono ?_; rintro e w' ⟨rfl, rfl⟩)
          | (go_at_call 59; refine (specl00In_any _ _ _ _).mono ?_; rintro e w' ⟨rfl, rfl⟩))
        refine bodyPost_ret (v := .tuple #[.agg #[.int .i64 0, .int .i64 0, .int .i64 0], .int .i64 2]) (by simp [results, Try.results24, go_sem]) rfl ⟨ret_clap e.out, (by repeat (first | exact Below.refl _ _ | refine Below.alloc ?_ (by first | omega | (simp; omega) | simp) _ | refine Below.drew ?_ | refine below_drewN ?_ _ | refine Below.setCell ?_ (by first | omega | (simp; omega) | simp) _ | (refine Below.trans ?_ (Below.mono (by assumption) (by first | omega | (simp; omega) | simp)))))⟩
    case false =>
      have e : Hid (clapFor m h r = (0, 0, 0, 2)) := by unfold Hid clapFor; simp [h1, h2]
      go_enter Try.func24, Try.ntmps24
      go_wp2_with (first
        | (go_at_call 63; refine (specl20Mass_any _ _).mono ?_; rintro e w' ⟨rfl, rfl⟩)
        | (go_at_call 59; refine (specl00In_any _ _ _ _).mono ?_; rintro e w' ⟨rfl, rfl⟩))
      refine bodyPost_ret (v := .tuple #[.agg #[.int .i64 0, .int .i64 0, .int .i64 0], .int .i64 2]) (by simp [results, Try.results24, go_sem]) rfl ⟨ret_clap e.out, (by repeat (first | exact Below.refl _ _ | refine Below.alloc ?_ (by first | omega | (simp; omega) | simp) _ | refine Below.drew ?_ | refine below_drewN ?_ _ | refine Below.setCell ?_ (by first | omega | (simp; omega) | simp) _ | (refine Below.trans ?_ (Below.mono (by assumption) (by first | omega | (simp; omega) | simp)))))⟩
  case false =>
    have e : Hid (clapFor m h r = (0, 0, 0, 2)) := by unfold Hid clapFor; simp [h1]
    go_enter Try.func24, Try.ntmps24
    go_wp2_with (first
      | (go_at_call 63; refine (specl20Mass_any _ _).mono ?_; rintro e w' ⟨rfl, rfl⟩)
      | (go_at_call 59; refine (specl00In_any _ _ _ _).mono ?_; rintro e w' ⟨rfl, rfl⟩))
    refine bodyPost_ret (v := .tuple #[.agg #[.int .i64 0, .int .i64 0, .int .i64 0], .int .i64 2]) (by simp [results, Try.results24, go_sem]) rfl ⟨ret_clap e.out, (by repeat (first | exact Below.refl _ _ | refine Below.alloc ?_ (by first | omega | (simp; omega) | simp) _ | refine Below.drew ?_ | refine below_drewN ?_ _ | refine Below.setCell ?_ (by first | omega | (simp; omega) | simp) _ | (refine Below.trans ?_ (Below.mono (by assumption) (by first | omega | (simp; omega) | simp)))))⟩
end Go.Proofs.Ytfgdfjgfgakjaaa
