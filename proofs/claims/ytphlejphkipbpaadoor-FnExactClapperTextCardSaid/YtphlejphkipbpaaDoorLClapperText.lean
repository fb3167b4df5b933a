/- Proved: for every input, laws.FnExactClapperText returns true and leaves its argument as it was, the library's three listed tables being as the program's text lays them. No other condition. -/
import Derived.Test.YtphlejphkipbpaaDoorLawText
import Derived.Test.YtphlejphkipbpaaDoorFrameL
import Derived.Test.YtphlejphkipbpaaDoorTie
import Derived.Test.YtphlejphkipbpaaDoorCards
import Derived.SevenTiedAt
namespace Go.Proofs.YtphlejphkipbpaaDoor
open Go.RowKit Go.ChangeShapes Go.WideShapes Go.ChangeAt Go.Joins Go.Deep

set_option maxRecDepth 100000 in
theorem open_Clapper {H : Type} {enc : TypeId × Value → H} {W : World} {r : Reach} {base b0 : Nat} {sp : Nat → Bool} {hd : Bool} {v : Value} {d : DataW H} {p : List MemPlace} (hv : Value.okWide Tryd.prog W r base 23 v) (h : DataW.Trod enc Tryd.prog W b0 sp hd 23 v d p) :
    ∃ (a0 : Int) (a1 : Int) (a2 : Int), v = .agg #[.int .i64 a0, .int .i64 a1, .int .i64 a2] ∧ Hid ((Lit.int .i64 a0).wf = true) ∧ Hid ((Lit.int .i64 a1).wf = true) ∧ Hid ((Lit.int .i64 a2).wf = true) := by
  obtain ⟨cs, rfl, hl, hf⟩ := open_agg Tryd.underlying23 (by kernel_rfl) (by kernel_rfl) hv h
  match cs, hl with
  | [c0, c1, c2], _ =>
    obtain ⟨n0, y0, g0⟩ := hf 0 _ c0 rfl rfl
    obtain ⟨a0, rfl, w0⟩ := trod_int' Tryd.underlying2 g0
    obtain ⟨n1, y1, g1⟩ := hf 1 _ c1 rfl rfl
    obtain ⟨a1, rfl, w1⟩ := trod_int' Tryd.underlying2 g1
    obtain ⟨n2, y2, g2⟩ := hf 2 _ c2 rfl rfl
    obtain ⟨a2, rfl, w2⟩ := trod_int' Tryd.underlying2 g2
    exact ⟨_, _, _, rfl, w0, w1, w2⟩
set_option maxRecDepth 100000 in
theorem FnExactClapperText_walk : LawWalkL Rows.fnExactClapperTextRow.laid 3 Tryd.f3 := by
  intro H enc W base args ds p hsh hL hval hA
  rw [Tryd.params3] at hA hval
  obtain ⟨v0, vs0, d0, ds0, p0, q0, hargs, rfl, rfl, h0, r0⟩ := trodAll_cons hA
  obtain ⟨rfl, rfl, rfl⟩ := trodAll_nil r0
  obtain rfl : args = #[v0] := by cases args; simp_all
  obtain ⟨x0_0, x0_1, x0_2, rfl, w0_0, w0_1, w0_2⟩ := open_Clapper (hval 0 _ v0 rfl rfl) h0
  exact lawClapperText x0_0 x0_1 x0_2 W (env_of_tabs ((MakeChecks.laidMetH_plain _ _ _ (by kernel_rfl)) ▸ hL))
theorem FnExactClapperText_met (os : Os) (args : Array Value) : laidMetH Tryd.prog Rows.fnExactClapperTextRow.laid ((World.doorLaid Tryd.prog 72 os).forCall (fun _ _ => 0) ⟨#[], args, []⟩).memory :=
  laidMetH_of_parts3 (fuel := 8) (laidMet_of_run' 8 (by kernel_rfl) (by kernel_rfl)) (by kernel_rfl) (by kernel_rfl)
set_option maxRecDepth 100000 in
theorem FnExactClapperText_lifted (os : Os) (started : os.Started) (H : Type) (enc : TypeId × Value → H) :
    ReturnsInHanded {} Tryd.checked os 3 .any (fun w args => (Rows.fnExactClapperTextSpec.pre enc Tryd.prog Tryd.f3 Rows.fnExactClapperTextRow.domain false w args ∧ laidMetH Tryd.prog Rows.fnExactClapperTextRow.laid w) ∧ sizedMet enc Tryd.prog Tryd.f3 (OpenSpec.ofChange Rows.fnExactClapperTextSpec) false w args) (Rows.fnExactClapperTextSpec.post enc Tryd.prog Tryd.f3 false true false false) :=
  law_lift_laid started H enc (by kernel_rfl) Tryd.func3
    (ChangeSpec.witness_shaped (enc := enc) (C := Tryd.checked) (os := os) (X := fun w _ => laidMetH Tryd.prog Rows.fnExactClapperTextRow.laid w) false (World.doorLaid Tryd.prog 72 os) #[.agg #[.int .i64 0, .int .i64 0, .int .i64 0]] 8 rfl (World.shaped_of_RefB (by kernel_rfl) (by kernel_rfl)) (by kernel_rfl) (by kernel_rfl) (by kernel_rfl) (FnExactClapperText_met os _))
    rfl (by kernel_rfl) (fun ds hl => by rw [Tryd.params3] at hl; match ds, hl with | [d0], _ => rfl) (by kernel_rfl) FnExactClapperText_walk
theorem FnExactClapperText_over : Rows.fnExactClapperTextRow.holds Tryd.pinned (OpenSpec.ofChange Rows.fnExactClapperTextSpec) :=
  OpenClaim.holds_of_wide 3 Tryd.f3 rfl rfl rfl rfl rfl rfl rfl ⟨rfl, rfl, rfl, rfl, rfl⟩ rfl rfl rfl rfl rfl (by kernel_rfl) Tryd.func3 (by kernel_rfl)
    (of_decide_eq_true (by kernel_rfl)) (by unfold Func.isWrapper; first | (rw [if_pos (by decide +kernel)]; kernel_rfl) | (rw [if_neg (by decide +kernel)]; exact ⟨rfl, rfl⟩))
    (fun os started H enc _ => FnExactClapperText_lifted os started H enc)
set_option maxRecDepth 100000 in
/-- The statement: the tied card. -/
theorem FnExactClapperText_proved : Rows.FnExactClapperTextCardSaid :=
  Claim7.holds_tied_plain_at .later [] [.data, .data, .data] true (true, "38349a8a026b0d934ab3f1da0b826bef923502bee03780cf2ad849181583ec70") true
    FnExactClapperText_over (fun _ h => by cases h) (by kernel_rfl) (fun _ h => by cases h) fnExactClapperText_row_tie rfl ⟨rfl, rfl⟩ (by kernel_rfl) rfl
    (fun f fn hf hfn => by
      obtain rfl : f = 3 := Option.some.inj ((show Tryd.prog.funcNamed _ = some 3 by kernel_rfl).symm.trans hf) |>.symm
      obtain rfl : fn = Tryd.f3 := (Option.some.inj (Tryd.func3.symm.trans hfn)).symm
      exact ⟨by kernel_rfl, fun j t ht => by
        have hm : t ∈ Tryd.f3.params.toList := by simpa using Array.mem_of_getElem? ht
        have hall : (Tryd.f3.params.toList.all fun u => !Tryd.prog.wantsStandIn u) = true := by kernel_rfl
        exact (show Tryd.prog.wantsStandIn t = false by simpa using List.all_eq_true.1 hall t hm)⟩)
    (by kernel_rfl)
#print axioms FnExactClapperText_proved
end Go.Proofs.YtphlejphkipbpaaDoor
