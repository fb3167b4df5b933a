/- Proved: for every input, laws.FnExactValidFrame returns true and leaves its arguments as they were. No condition. -/
import Derived.Test.YtibdclihjipaiaaBeamO
import Derived.Test.YtibdclihjipaiaaBms2
namespace Go.Proofs.Ytibdclihjipaiaa
open Go.RowKit Go.ChangeShapes Go.WideShapes Go.ChangeAt Go.Joins Go.Deep

set_option maxRecDepth 100000 in
theorem open_BeamS {H : Type} {enc : TypeId × Value → H} {W : World} {r : Reach} {base b0 : Nat} {sp : Nat → Bool} {hd : Bool} {v : Value} {d : DataW H} {p : List MemPlace} (hv : Value.okWide Try.prog W r base 32 v) (h : DataW.Trod enc Try.prog W b0 sp hd 32 v d p) :
    ∃ (A : Option Addr) (c : Nat) (xs : List BeamV), v = .slice A xs.length c ∧ SlAt encBV 6 W A xs ∧ (∀ x ∈ xs, x.nm.size ≤ maxLen ∧ SlAt encLoad 2 W x.A x.ls ∧ x.ls.length ≤ maxLen) ∧ xs.length ≤ maxLen := by
  obtain ⟨a0, len, cap, rfl⟩ := okWide_slice Try.underlying32 hv
  obtain ⟨fuel, hf⟩ := h
  refine open_rows (en := encBV) (good := fun x => x.nm.size ≤ maxLen ∧ SlAt encLoad 2 W x.A x.ls ∧ x.ls.length ≤ maxLen) Try.underlying32 Try.underlying24 (by kernel_rfl) (by kernel_rfl) (by decide) (fun _ => rfl) ?_ (show DataW.trod enc Try.prog W b0 sp hd fuel 32 [.slice a0 len cap] = some (d, p) from hf)
  intro vs hf
  obtain ⟨n0, y0, g0⟩ := hf 0 _ rfl
  obtain ⟨a0, e0, w0⟩ := trod_string' Try.underlying9 g0
  obtain ⟨n1, y1, g1⟩ := hf 1 _ rfl
  obtain ⟨a1, e1, _⟩ := trod_int' Try.underlying2 g1
  obtain ⟨n2, y2, g2⟩ := hf 2 _ rfl
  obtain ⟨a2, e2, _⟩ := trod_int' Try.underlying2 g2
  obtain ⟨n3, y3, g3⟩ := hf 3 _ rfl
  obtain ⟨a3, e3, _⟩ := trod_int' Try.underlying2 g3
  obtain ⟨n4, y4, g4⟩ := hf 4 _ rfl
  obtain ⟨a4, e4, _⟩ := trod_int' Try.underlying2 g4
  obtain ⟨n5, y5, g5⟩ := hf 5 _ rfl
  obtain ⟨A5, c5, ls5, e5, hS5, -, hl5⟩ := open_Load_cell g5
  refine ⟨⟨a0, a1, a2, a3, a4, A5, c5, ls5⟩, ⟨w0, hS5, hl5⟩, fun j v hj => ?_⟩
  match j, hj with
  | 0, hj => injection hj with hj; rw [← hj]; exact e0.symm
  | 1, hj => injection hj with hj; rw [← hj]; exact e1.symm
  | 2, hj => injection hj with hj; rw [← hj]; exact e2.symm
  | 3, hj => injection hj with hj; rw [← hj]; exact e3.symm
  | 4, hj => injection hj with hj; rw [← hj]; exact e4.symm
  | 5, hj => injection hj with hj; rw [← hj]; exact e5.symm
set_option maxRecDepth 100000 in
theorem FnExactValidFrame_walk : LawWalk 4 Try.f4 := by
  intro H enc W base args ds p hval hA
  rw [Try.params4] at hA hval
  obtain ⟨v0, vs0, d0, ds0, p0, q0, hargs, rfl, rfl, h0, r0⟩ := trodAll_cons hA
  obtain ⟨rfl, rfl, rfl⟩ := trodAll_nil r0
  obtain rfl : args = #[v0] := by cases args; simp_all
  obtain ⟨A, c, xs, rfl, hS, hg, hl⟩ := open_BeamS (hval 0 _ v0 rfl rfl) h0; exact lawValidFrame A c xs W hS (fun x hx => (hg x hx).2.1) (by unfold maxLen at hl; omega) (fun x hx => ⟨(hg x hx).1, by have := (hg x hx).2.2; unfold maxLen at this; omega⟩)
set_option maxRecDepth 100000 in
theorem FnExactValidFrame_lifted (os : Os) (started : os.Started) (H : Type) (enc : TypeId × Value → H) :
    ReturnsInHanded {} Try.checked os 4 .any (Rows.fnExactValidFrameSpec.pre6 enc Try.prog Try.f4 Rows.fnExactValidFrameRow.domain false) (Rows.fnExactValidFrameSpec.post enc Try.prog Try.f4 false true false false) :=
  law_lift started H enc (by kernel_rfl) Try.func4
    (ChangeSpec.witness6 (enc := enc) (C := Try.checked) false ⟨#[], #[.slice none 0 0], []⟩ 8 (by kernel_rfl) (by kernel_rfl) (by kernel_rfl) (by kernel_rfl))
    rfl (by kernel_rfl) (fun ds hl => by rw [Try.params4] at hl; match ds, hl with | [d0], _ => rfl) (by kernel_rfl) FnExactValidFrame_walk
theorem FnExactValidFrame_over : Rows.fnExactValidFrameRow.holds Try.pinned (OpenSpec.ofChange Rows.fnExactValidFrameSpec) :=
  OpenClaim.holds_of_wide 4 Try.f4 rfl rfl rfl rfl rfl rfl rfl ⟨rfl, rfl, rfl, rfl, rfl⟩ rfl rfl rfl rfl rfl (by kernel_rfl) Try.func4 (by kernel_rfl)
    (of_decide_eq_true (by kernel_rfl)) (by unfold Func.isWrapper; first | (rw [if_pos (by decide +kernel)]; kernel_rfl) | (rw [if_neg (by decide +kernel)]; exact ⟨rfl, rfl⟩))
    (fun os started H enc _ => FnExactValidFrame_lifted os started H enc)
/-- The statement. -/
theorem FnExactValidFrame_proved : Rows.FnExactValidFrameSaid := FnExactValidFrame_over
#print axioms FnExactValidFrame_proved
end Go.Proofs.Ytibdclihjipaiaa
