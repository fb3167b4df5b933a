/- Proved: for every input, laws.FnExactPlaceText returns true and leaves its argument as it was, the library's three listed tables being as the program's text lays them. No other condition. -/
import Derived.Test.YtphlejphkipbpaaDoorLawText
import Derived.Test.YtphlejphkipbpaaDoorFrameL
import Derived.Test.YtphlejphkipbpaaDoorTie
import Derived.Test.YtphlejphkipbpaaDoorCards
import Derived.SevenTiedAt
namespace Go.Proofs.YtphlejphkipbpaaDoor
open Go.RowKit Go.ChangeShapes Go.WideShapes Go.ChangeAt Go.Joins Go.Deep

set_option maxRecDepth 100000 in
theorem open_Place {H : Type} {enc : TypeId × Value → H} {W : World} {r : Reach} {base b0 : Nat} {sp : Nat → Bool} {hd : Bool} {v : Value} {d : DataW H} {p : List MemPlace} (hv : Value.okWide Tryd.prog W r base 43 v) (h : DataW.Trod enc Tryd.prog W b0 sp hd 43 v d p) :
    ∃ (a0 : ByteArray) (a1 : Int) (a2 : Int) (a3 : Int) (a4 : Int), v = .agg #[.string a0, .int .i64 a1, .int .i64 a2, .int .i64 a3, .int .i64 a4] ∧ a0.size ≤ maxLen ∧ Hid ((Lit.int .i64 a1).wf = true) ∧ Hid ((Lit.int .i64 a2).wf = true) ∧ Hid ((Lit.int .i64 a3).wf = true) ∧ Hid ((Lit.int .i64 a4).wf = true) := by
  obtain ⟨cs, rfl, hl, hf⟩ := open_agg Tryd.underlying43 (by kernel_rfl) (by kernel_rfl) hv h
  match cs, hl with
  | [c0, c1, c2, c3, c4], _ =>
    obtain ⟨n0, y0, g0⟩ := hf 0 _ c0 rfl rfl
    obtain ⟨a0, rfl, w0⟩ := trod_string' Tryd.underlying9 g0
    obtain ⟨n1, y1, g1⟩ := hf 1 _ c1 rfl rfl
    obtain ⟨a1, rfl, w1⟩ := trod_int' Tryd.underlying2 g1
    obtain ⟨n2, y2, g2⟩ := hf 2 _ c2 rfl rfl
    obtain ⟨a2, rfl, w2⟩ := trod_int' Tryd.underlying2 g2
    obtain ⟨n3, y3, g3⟩ := hf 3 _ c3 rfl rfl
    obtain ⟨a3, rfl, w3⟩ := trod_int' Tryd.underlying2 g3
    obtain ⟨n4, y4, g4⟩ := hf 4 _ c4 rfl rfl
    obtain ⟨a4, rfl, w4⟩ := trod_int' Tryd.underlying2 g4
    exact ⟨_, _, _, _, _, rfl, w0, w1, w2, w3, w4⟩
set_option maxRecDepth 100000 in
theorem FnExactPlaceText_walk : LawWalkL Rows.fnExactPlaceTextRow.laid 6 Tryd.f6 := by
  intro H enc W base args ds p hsh hL hval hA
  rw [Tryd.params6] at hA hval
  obtain ⟨v0, vs0, d0, ds0, p0, q0, hargs, rfl, rfl, h0, r0⟩ := trodAll_cons hA
  obtain ⟨rfl, rfl, rfl⟩ := trodAll_nil r0
  obtain rfl : args = #[v0] := by cases args; simp_all
  obtain ⟨x0_0, x0_1, x0_2, x0_3, x0_4, rfl, w0_0, w0_1, w0_2, w0_3, w0_4⟩ := open_Place (hval 0 _ v0 rfl rfl) h0
  exact lawPlaceText x0_0 x0_1 x0_2 x0_3 x0_4 W (env_of_tabs ((MakeChecks.laidMetH_plain _ _ _ (by kernel_rfl)) ▸ hL)) w0_0
theorem FnExactPlaceText_met (os : Os) (args : Array Value) : laidMetH Tryd.prog Rows.fnExactPlaceTextRow.laid ((World.doorLaid Tryd.prog 72 os).forCall (fun _ _ => 0) ⟨#[], args, []⟩).memory :=
  laidMetH_of_parts3 (fuel := 8) (laidMet_of_run' 8 (by kernel_rfl) (by kernel_rfl)) (by kernel_rfl) (by kernel_rfl)
set_option maxRecDepth 100000 in
theorem FnExactPlaceText_lifted (os : Os) (started : os.Started) (H : Type) (enc : TypeId × Value → H) :
    ReturnsInHanded {} Tryd.checked os 6 .any (fun w args => (Rows.fnExactPlaceTextSpec.pre enc Tryd.prog Tryd.f6 Rows.fnExactPlaceTextRow.domain false w args ∧ laidMetH Tryd.prog Rows.fnExactPlaceTextRow.laid w) ∧ sizedMet enc Tryd.prog Tryd.f6 (OpenSpec.ofChange Rows.fnExactPlaceTextSpec) false w args) (Rows.fnExactPlaceTextSpec.post enc Tryd.prog Tryd.f6 false true false false) :=
  law_lift_laid started H enc (by kernel_rfl) Tryd.func6
    (ChangeSpec.witness_shaped (enc := enc) (C := Tryd.checked) (os := os) (X := fun w _ => laidMetH Tryd.prog Rows.fnExactPlaceTextRow.laid w) false (World.doorLaid Tryd.prog 72 os) #[.agg #[.string ⟨#[]⟩, .int .i64 0, .int .i64 0, .int .i64 0, .int .i64 0]] 8 rfl (World.shaped_of_RefB (by kernel_rfl) (by kernel_rfl)) (by kernel_rfl) (by kernel_rfl) (by kernel_rfl) (FnExactPlaceText_met os _))
    rfl (by kernel_rfl) (fun ds hl => by rw [Tryd.params6] at hl; match ds, hl with | [d0], _ => rfl) (by kernel_rfl) FnExactPlaceText_walk
theorem FnExactPlaceText_over : Rows.fnExactPlaceTextRow.holds Tryd.pinned (OpenSpec.ofChange Rows.fnExactPlaceTextSpec) :=
  OpenClaim.holds_of_wide 6 Tryd.f6 rfl rfl rfl rfl rfl rfl rfl ⟨rfl, rfl, rfl, rfl, rfl⟩ rfl rfl rfl rfl rfl (by kernel_rfl) Tryd.func6 (by kernel_rfl)
    (of_decide_eq_true (by kernel_rfl)) (by unfold Func.isWrapper; first | (rw [if_pos (by decide +kernel)]; kernel_rfl) | (rw [if_neg (by decide +kernel)]; exact ⟨rfl, rfl⟩))
    (fun os started H enc _ => FnExactPlaceText_lifted os started H enc)
set_option maxRecDepth 100000 in
/-- The statement: the tied card. -/
theorem FnExactPlaceText_proved : Rows.FnExactPlaceTextCardSaid :=
  Claim7.holds_tied_plain_at .later [] [.data, .data, .data] true (true, "38349a8a026b0d934ab3f1da0b826bef923502bee03780cf2ad849181583ec70") true
    FnExactPlaceText_over (fun _ h => by cases h) (by kernel_rfl) (fun _ h => by cases h) fnExactPlaceText_row_tie rfl ⟨rfl, rfl⟩ (by kernel_rfl) rfl
    (fun f fn hf hfn => by
      obtain rfl : f = 6 := Option.some.inj ((show Tryd.prog.funcNamed _ = some 6 by kernel_rfl).symm.trans hf) |>.symm
      obtain rfl : fn = Tryd.f6 := (Option.some.inj (Tryd.func6.symm.trans hfn)).symm
      exact ⟨by kernel_rfl, fun j t ht => by
        have hm : t ∈ Tryd.f6.params.toList := by simpa using Array.mem_of_getElem? ht
        have hall : (Tryd.f6.params.toList.all fun u => !Tryd.prog.wantsStandIn u) = true := by kernel_rfl
        exact (show Tryd.prog.wantsStandIn t = false by simpa using List.all_eq_true.1 hall t hm)⟩)
    (by kernel_rfl)
#print axioms FnExactPlaceText_proved
end Go.Proofs.YtphlejphkipbpaaDoor
