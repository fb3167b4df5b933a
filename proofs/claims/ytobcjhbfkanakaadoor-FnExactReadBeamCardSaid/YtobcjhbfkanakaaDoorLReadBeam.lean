/- Proved: for every input, laws.FnExactReadBeam returns true and leaves its argument as it was, the library's seven listed variables being as the program's text lays them. No other condition. -/
import Derived.Test.YtobcjhbfkanakaaDoorLawRB
import Derived.Test.YtobcjhbfkanakaaDoorFrameL
import Derived.Test.YtobcjhbfkanakaaDoorTie
import Derived.Test.YtobcjhbfkanakaaDoorCards
import Derived.SevenTiedAt
namespace Go.Proofs.YtobcjhbfkanakaaDoor
open Go.RowKit Go.ChangeShapes Go.WideShapes Go.ChangeAt Go.Joins Go.Deep

set_option maxRecDepth 100000 in
theorem FnExactReadBeam_walk : LawWalkL Rows.fnExactReadBeamRow.laid 4 Tryd.f4 := by
  intro H enc W base args ds p hsh hL hval hA
  rw [Tryd.params4] at hA hval
  obtain ⟨v0, vs0, d0, ds0, p0, q0, hargs, rfl, rfl, h0, r0⟩ := trodAll_cons hA
  obtain ⟨rfl, rfl, rfl⟩ := trodAll_nil r0
  obtain rfl : args = #[v0] := by cases args; simp_all
  obtain ⟨a0, rfl, rfl, rfl, w0⟩ := Go.ChangeMaps.open_string Tryd.underlying9 (hval 0 _ v0 rfl rfl) h0
  exact lawReadBeam a0 W (env_of_all hsh ((MakeChecks.laidMetH_plain _ _ _ (by kernel_rfl)) ▸ hL))
theorem FnExactReadBeam_met (os : Os) (args : Array Value) : laidMetH Tryd.prog Rows.fnExactReadBeamRow.laid ((World.laidAll Tryd.prog os Rows.fnExactReadBeamRow.laid).forCall (fun _ _ => 0) ⟨#[], args, []⟩).memory :=
  by rw [MakeChecks.laidMetH_plain _ _ _ (by kernel_rfl)]; exact laidMet_laidAll _ (by kernel_rfl) (by kernel_rfl)
set_option maxRecDepth 100000 in
theorem FnExactReadBeam_lifted (os : Os) (started : os.Started) (H : Type) (enc : TypeId × Value → H) :
    ReturnsInHanded {} Tryd.checked os 4 .any (fun w args => (Rows.fnExactReadBeamSpec.pre enc Tryd.prog Tryd.f4 Rows.fnExactReadBeamRow.domain false w args ∧ laidMetH Tryd.prog Rows.fnExactReadBeamRow.laid w) ∧ sizedMet enc Tryd.prog Tryd.f4 (OpenSpec.ofChange Rows.fnExactReadBeamSpec) false w args) (Rows.fnExactReadBeamSpec.post enc Tryd.prog Tryd.f4 false true false false) :=
  law_lift_laid started H enc (by kernel_rfl) Tryd.func4
    (ChangeSpec.witness_shaped (enc := enc) (C := Tryd.checked) (os := os) (X := fun w _ => laidMetH Tryd.prog Rows.fnExactReadBeamRow.laid w) false (World.laidAll Tryd.prog os Rows.fnExactReadBeamRow.laid) #[.string ⟨#[]⟩] 8 (World.laidAll_os _ _ _) (World.shaped_of_ZipB (by kernel_rfl) (by kernel_rfl)) (by kernel_rfl) (by kernel_rfl) (by kernel_rfl) (FnExactReadBeam_met os _))
    rfl (by kernel_rfl) (fun ds hl => by rw [Tryd.params4] at hl; match ds, hl with | [d0], _ => rfl) (by kernel_rfl) FnExactReadBeam_walk
theorem FnExactReadBeam_over : Rows.fnExactReadBeamRow.holds Tryd.pinned (OpenSpec.ofChange Rows.fnExactReadBeamSpec) :=
  OpenClaim.holds_of_wide 4 Tryd.f4 rfl rfl rfl rfl rfl rfl rfl ⟨rfl, rfl, rfl, rfl, rfl⟩ rfl rfl rfl rfl rfl (by kernel_rfl) Tryd.func4 (by kernel_rfl)
    (of_decide_eq_true (by kernel_rfl)) (by unfold Func.isWrapper; first | (rw [if_pos (by decide +kernel)]; kernel_rfl) | (rw [if_neg (by decide +kernel)]; exact ⟨rfl, rfl⟩))
    (fun os started H enc _ => FnExactReadBeam_lifted os started H enc)
set_option maxRecDepth 100000 in
/-- The statement: the tied card. -/
theorem FnExactReadBeam_proved : Rows.FnExactReadBeamCardSaid :=
  Claim7.holds_tied_plain_at .later [] [.data, .data, .data, .data, .sentinel, .sentinel, .pinned] true (true, "e6b36773b02a322ff90a73910602609b9d958ec04d3373b537291178bddb6fad") true
    FnExactReadBeam_over (fun _ h => by cases h) (by kernel_rfl) (fun _ h => by cases h) fnExactReadBeam_row_tie rfl ⟨rfl, rfl⟩ (by kernel_rfl) rfl
    (fun f fn hf hfn => by
      obtain rfl : f = 4 := Option.some.inj ((show Tryd.prog.funcNamed _ = some 4 by kernel_rfl).symm.trans hf) |>.symm
      obtain rfl : fn = Tryd.f4 := (Option.some.inj (Tryd.func4.symm.trans hfn)).symm
      exact ⟨by kernel_rfl, fun j t ht => by
        have hm : t ∈ Tryd.f4.params.toList := by simpa using Array.mem_of_getElem? ht
        have hall : (Tryd.f4.params.toList.all fun u => !Tryd.prog.wantsStandIn u) = true := by kernel_rfl
        exact (show Tryd.prog.wantsStandIn t = false by simpa using List.all_eq_true.1 hall t hm)⟩)
    (by kernel_rfl)
#print axioms FnExactReadBeam_proved
end Go.Proofs.YtobcjhbfkanakaaDoor
