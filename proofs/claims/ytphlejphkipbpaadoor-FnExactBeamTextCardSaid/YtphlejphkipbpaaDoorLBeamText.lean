/- Proved: for every input, laws.FnExactBeamText returns true and leaves its argument as it was, the library's three listed tables being as the program's text lays them. No other condition. -/
import Derived.Test.YtphlejphkipbpaaDoorLawBeamT
import Derived.Test.YtphlejphkipbpaaDoorBeamO
import Derived.Test.YtphlejphkipbpaaDoorFrameL
import Derived.Test.YtphlejphkipbpaaDoorTie
import Derived.Test.YtphlejphkipbpaaDoorCards
import Derived.SevenTiedAt
namespace Go.Proofs.YtphlejphkipbpaaDoor
open Go.RowKit Go.ChangeShapes Go.WideShapes Go.ChangeAt Go.Joins Go.Deep

set_option maxRecDepth 100000 in
theorem FnExactBeamText_walk : LawWalkL Rows.fnExactBeamTextRow.laid 7 Tryd.f7 := by
  intro H enc W base args ds p hsh hL hval hA
  rw [Tryd.params7] at hA hval
  obtain ⟨v0, vs0, d0, ds0, p0, q0, hargs, rfl, rfl, h0, r0⟩ := trodAll_cons hA
  obtain ⟨rfl, rfl, rfl⟩ := trodAll_nil r0
  obtain rfl : args = #[v0] := by cases args; simp_all
  obtain ⟨nm, span, wd, dp, wood, A, c, ls, rfl, hs, hS, hl⟩ := open_Beam (hval 0 _ v0 rfl rfl) h0; exact lawBeamText nm span wd dp wood A c ls W (env_of_tabs ((MakeChecks.laidMetH_plain _ _ _ (by kernel_rfl)) ▸ hL)) hS hl hs
theorem FnExactBeamText_met (os : Os) (args : Array Value) : laidMetH Tryd.prog Rows.fnExactBeamTextRow.laid ((World.doorLaid Tryd.prog 72 os).forCall (fun _ _ => 0) ⟨#[], args, []⟩).memory :=
  laidMetH_of_parts3 (fuel := 8) (laidMet_of_run' 8 (by kernel_rfl) (by kernel_rfl)) (by kernel_rfl) (by kernel_rfl)
set_option maxRecDepth 100000 in
theorem FnExactBeamText_lifted (os : Os) (started : os.Started) (H : Type) (enc : TypeId × Value → H) :
    ReturnsInHanded {} Tryd.checked os 7 .any (fun w args => (Rows.fnExactBeamTextSpec.pre enc Tryd.prog Tryd.f7 Rows.fnExactBeamTextRow.domain false w args ∧ laidMetH Tryd.prog Rows.fnExactBeamTextRow.laid w) ∧ sizedMet enc Tryd.prog Tryd.f7 (OpenSpec.ofChange Rows.fnExactBeamTextSpec) false w args) (Rows.fnExactBeamTextSpec.post enc Tryd.prog Tryd.f7 false true false false) :=
  law_lift_laid started H enc (by kernel_rfl) Tryd.func7
    (ChangeSpec.witness_shaped (enc := enc) (C := Tryd.checked) (os := os) (X := fun w _ => laidMetH Tryd.prog Rows.fnExactBeamTextRow.laid w) false (World.doorLaid Tryd.prog 72 os) #[.agg #[.string ⟨#[]⟩, .int .i64 0, .int .i64 0, .int .i64 0, .int .i64 0, .slice none 0 0]] 8 rfl (World.shaped_of_RefB (by kernel_rfl) (by kernel_rfl)) (by kernel_rfl) (by kernel_rfl) (by kernel_rfl) (FnExactBeamText_met os _))
    rfl (by kernel_rfl) (fun ds hl => by rw [Tryd.params7] at hl; match ds, hl with | [d0], _ => rfl) (by kernel_rfl) FnExactBeamText_walk
theorem FnExactBeamText_over : Rows.fnExactBeamTextRow.holds Tryd.pinned (OpenSpec.ofChange Rows.fnExactBeamTextSpec) :=
  OpenClaim.holds_of_wide 7 Tryd.f7 rfl rfl rfl rfl rfl rfl rfl ⟨rfl, rfl, rfl, rfl, rfl⟩ rfl rfl rfl rfl rfl (by kernel_rfl) Tryd.func7 (by kernel_rfl)
    (of_decide_eq_true (by kernel_rfl)) (by unfold Func.isWrapper; first | (rw [if_pos (by decide +kernel)]; kernel_rfl) | (rw [if_neg (by decide +kernel)]; exact ⟨rfl, rfl⟩))
    (fun os started H enc _ => FnExactBeamText_lifted os started H enc)
set_option maxRecDepth 100000 in
/-- The statement: the tied card. -/
theorem FnExactBeamText_proved : Rows.FnExactBeamTextCardSaid :=
  Claim7.holds_tied_plain_at .later [] [.data, .data, .data] true (true, "38349a8a026b0d934ab3f1da0b826bef923502bee03780cf2ad849181583ec70") true
    FnExactBeamText_over (fun _ h => by cases h) (by kernel_rfl) (fun _ h => by cases h) fnExactBeamText_row_tie rfl ⟨rfl, rfl⟩ (by kernel_rfl) rfl
    (fun f fn hf hfn => by
      obtain rfl : f = 7 := Option.some.inj ((show Tryd.prog.funcNamed _ = some 7 by kernel_rfl).symm.trans hf) |>.symm
      obtain rfl : fn = Tryd.f7 := (Option.some.inj (Tryd.func7.symm.trans hfn)).symm
      exact ⟨by kernel_rfl, fun j t ht => by
        have hm : t ∈ Tryd.f7.params.toList := by simpa using Array.mem_of_getElem? ht
        have hall : (Tryd.f7.params.toList.all fun u => !Tryd.prog.wantsStandIn u) = true := by kernel_rfl
        exact (show Tryd.prog.wantsStandIn t = false by simpa using List.all_eq_true.1 hall t hm)⟩)
    (by kernel_rfl)
#print axioms FnExactBeamText_proved
end Go.Proofs.YtphlejphkipbpaaDoor
