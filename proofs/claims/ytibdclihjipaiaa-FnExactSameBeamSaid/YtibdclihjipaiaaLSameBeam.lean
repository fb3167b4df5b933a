/- Proved: for every input, laws.FnExactSameBeam returns true and leaves its arguments as they were. No condition. -/
import Derived.Test.YtibdclihjipaiaaBeamO
import Derived.Test.YtibdclihjipaiaaSame2
namespace Go.Proofs.Ytibdclihjipaiaa
open Go.RowKit Go.ChangeShapes Go.WideShapes Go.ChangeAt Go.Joins Go.Deep

set_option maxRecDepth 100000 in
theorem FnExactSameBeam_walk : LawWalk 3 Try.f3 := by
  intro H enc W base args ds p hval hA
  rw [Try.params3] at hA hval
  obtain ⟨v0, vs0, d0, ds0, p0, q0, hargs, rfl, rfl, h0, r0⟩ := trodAll_cons hA
  obtain ⟨v1, vs1, d1, ds1, p1, q1, rfl, rfl, rfl, h1, r1⟩ := trodAll_cons r0
  obtain ⟨rfl, rfl, rfl⟩ := trodAll_nil r1
  obtain rfl : args = #[v0, v1] := by cases args; simp_all
  obtain ⟨nm, span, wd, dp, wood, A, c, ls, rfl, hs, hS, hl⟩ := open_Beam (hval 0 _ v0 rfl rfl) h0; obtain ⟨nm', span', wd', dp', wood', A', c', ls', rfl, hs', hS', hl'⟩ := open_Beam (hval 1 _ v1 rfl rfl) h1; exact lawSameBeam nm nm' span wd dp wood span' wd' dp' wood' A A' c c' ls ls' W hS hS' hl hl' hs hs'
set_option maxRecDepth 100000 in
theorem FnExactSameBeam_lifted (os : Os) (started : os.Started) (H : Type) (enc : TypeId × Value → H) :
    ReturnsInHanded {} Try.checked os 3 .any (Rows.fnExactSameBeamSpec.pre6 enc Try.prog Try.f3 Rows.fnExactSameBeamRow.domain false) (Rows.fnExactSameBeamSpec.post enc Try.prog Try.f3 false true false false) :=
  law_lift started H enc (by kernel_rfl) Try.func3
    (ChangeSpec.witness6 (enc := enc) (C := Try.checked) false ⟨#[], #[.agg #[.string ⟨#[]⟩, .int .i64 0, .int .i64 0, .int .i64 0, .int .i64 0, .slice none 0 0], .agg #[.string ⟨#[]⟩, .int .i64 0, .int .i64 0, .int .i64 0, .int .i64 0, .slice none 0 0]], []⟩ 8 (by kernel_rfl) (by kernel_rfl) (by kernel_rfl) (by kernel_rfl))
    rfl (by kernel_rfl) (fun ds hl => by rw [Try.params3] at hl; match ds, hl with | [d0, d1], _ => rfl) (by kernel_rfl) FnExactSameBeam_walk
theorem FnExactSameBeam_over : Rows.fnExactSameBeamRow.holds Try.pinned (OpenSpec.ofChange Rows.fnExactSameBeamSpec) :=
  OpenClaim.holds_of_wide 3 Try.f3 rfl rfl rfl rfl rfl rfl rfl ⟨rfl, rfl, rfl, rfl, rfl⟩ rfl rfl rfl rfl rfl (by kernel_rfl) Try.func3 (by kernel_rfl)
    (of_decide_eq_true (by kernel_rfl)) (by unfold Func.isWrapper; first | (rw [if_pos (by decide +kernel)]; kernel_rfl) | (rw [if_neg (by decide +kernel)]; exact ⟨rfl, rfl⟩))
    (fun os started H enc _ => FnExactSameBeam_lifted os started H enc)
/-- The statement. -/
theorem FnExactSameBeam_proved : Rows.FnExactSameBeamSaid := FnExactSameBeam_over
#print axioms FnExactSameBeam_proved
end Go.Proofs.Ytibdclihjipaiaa
