/- Proved: for every input, laws.FnExactFirstLayout returns true and leaves its arguments as they were. No condition. -/
import Derived.Test.YtjklhacffdhgaaaLyL
import Derived.Test.YtjklhacffdhgaaaOpenI
namespace Go.Proofs.Ytjklhacffdhgaaa
open Go.RowKit Go.ChangeShapes Go.WideShapes Go.ChangeAt Go.Joins Go.Deep

set_option maxRecDepth 100000 in
theorem open_Chamber {H : Type} {enc : TypeId × Value → H} {W : World} {r : Reach} {base b0 : Nat} {sp : Nat → Bool} {hd : Bool} {v : Value} {d : DataW H} {p : List MemPlace} (hv : Value.okWide Try.prog W r base 82 v) (h : DataW.Trod enc Try.prog W b0 sp hd 82 v d p) :
    ∃ (a0 : Int) (a1 : Int) (a2 : Int), v = .agg #[.int .i64 a0, .int .i64 a1, .int .i64 a2] ∧ Hid ((Lit.int .i64 a0).wf = true) ∧ Hid ((Lit.int .i64 a1).wf = true) ∧ Hid ((Lit.int .i64 a2).wf = true) := by
  obtain ⟨cs, rfl, hl, hf⟩ := open_agg Try.underlying82 (by kernel_rfl) (by kernel_rfl) hv h
  match cs, hl with
  | [c0, c1, c2], _ =>
    obtain ⟨n0, y0, g0⟩ := hf 0 _ c0 rfl rfl
    obtain ⟨a0, rfl, w0⟩ := trod_int' Try.underlying2 g0
    obtain ⟨n1, y1, g1⟩ := hf 1 _ c1 rfl rfl
    obtain ⟨a1, rfl, w1⟩ := trod_int' Try.underlying2 g1
    obtain ⟨n2, y2, g2⟩ := hf 2 _ c2 rfl rfl
    obtain ⟨a2, rfl, w2⟩ := trod_int' Try.underlying2 g2
    exact ⟨_, _, _, rfl, w0, w1, w2⟩
set_option maxRecDepth 100000 in
theorem FnExactFirstLayout_walk : LawWalk 11 Try.f11 := by
  intro H enc W base args ds p hval hA
  rw [Try.params11] at hA hval
  obtain ⟨v0, vs0, d0, ds0, p0, q0, hargs, rfl, rfl, h0, r0⟩ := trodAll_cons hA
  obtain ⟨v1, vs1, d1, ds1, p1, q1, rfl, rfl, rfl, h1, r1⟩ := trodAll_cons r0
  obtain ⟨v2, vs2, d2, ds2, p2, q2, rfl, rfl, rfl, h2, r2⟩ := trodAll_cons r1
  obtain ⟨v3, vs3, d3, ds3, p3, q3, rfl, rfl, rfl, h3, r3⟩ := trodAll_cons r2
  obtain ⟨v4, vs4, d4, ds4, p4, q4, rfl, rfl, rfl, h4, r4⟩ := trodAll_cons r3
  obtain ⟨v5, vs5, d5, ds5, p5, q5, rfl, rfl, rfl, h5, r5⟩ := trodAll_cons r4
  obtain ⟨rfl, rfl, rfl⟩ := trodAll_nil r5
  obtain rfl : args = #[v0, v1, v2, v3, v4, v5] := by cases args; simp_all
  obtain ⟨x0_0, x0_1, x0_2, rfl, w0_0, w0_1, w0_2⟩ := open_Chamber (hval 0 _ v0 rfl rfl) h0
  obtain ⟨a2, rfl, rfl, rfl, w2⟩ := open_int Try.underlying2 (hval 2 _ v2 rfl rfl) h2
  obtain ⟨a3, rfl, rfl, rfl, w3⟩ := open_int Try.underlying2 (hval 3 _ v3 rfl rfl) h3
  obtain ⟨a4, rfl, rfl, rfl, w4⟩ := open_int Try.underlying2 (hval 4 _ v4 rfl rfl) h4
  obtain ⟨a5, rfl, rfl, rfl, w5⟩ := open_int Try.underlying2 (hval 5 _ v5 rfl rfl) h5
  obtain ⟨A, c, xs, rfl, kA⟩ := open_IntS (hval 1 _ v1 rfl rfl) h1; exact lawFirstLayout_any x0_0 x0_1 x0_2 A c xs a2 a3 a4 a5 W kA
set_option maxRecDepth 100000 in
theorem FnExactFirstLayout_lifted (os : Os) (started : os.Started) (H : Type) (enc : TypeId × Value → H) :
    ReturnsInHanded {} Try.checked os 11 .any (Rows.fnExactFirstLayoutSpec.pre6 enc Try.prog Try.f11 Rows.fnExactFirstLayoutRow.domain false) (Rows.fnExactFirstLayoutSpec.post enc Try.prog Try.f11 false true false false) :=
  law_lift started H enc (by kernel_rfl) Try.func11
    (ChangeSpec.witness6 (enc := enc) (C := Try.checked) false ⟨#[], #[.agg #[.int .i64 0, .int .i64 0, .int .i64 0], .slice none 0 0, .int .i64 0, .int .i64 0, .int .i64 0, .int .i64 0], []⟩ 8 (by kernel_rfl) (by kernel_rfl) (by kernel_rfl) (by kernel_rfl))
    rfl (by kernel_rfl) (fun ds hl => by rw [Try.params11] at hl; match ds, hl with | [d0, d1, d2, d3, d4, d5], _ => rfl) (by kernel_rfl) FnExactFirstLayout_walk
theorem FnExactFirstLayout_over : Rows.fnExactFirstLayoutRow.holds Try.pinned (OpenSpec.ofChange Rows.fnExactFirstLayoutSpec) :=
  OpenClaim.holds_of_wide 11 Try.f11 rfl rfl rfl rfl rfl rfl rfl ⟨rfl, rfl, rfl, rfl, rfl⟩ rfl rfl rfl rfl rfl (by kernel_rfl) Try.func11 (by kernel_rfl)
    (of_decide_eq_true (by kernel_rfl)) (by unfold Func.isWrapper; first | (rw [if_pos (by decide +kernel)]; kernel_rfl) | (rw [if_neg (by decide +kernel)]; exact ⟨rfl, rfl⟩))
    (fun os started H enc _ => FnExactFirstLayout_lifted os started H enc)
/-- The statement. -/
theorem FnExactFirstLayout_proved : Rows.FnExactFirstLayoutSaid := FnExactFirstLayout_over
#print axioms FnExactFirstLayout_proved
end Go.Proofs.Ytjklhacffdhgaaa
