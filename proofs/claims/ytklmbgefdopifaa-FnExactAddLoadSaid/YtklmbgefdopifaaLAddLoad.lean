/- Proved: for every input, laws.FnExactAddLoad returns true and leaves its arguments as they were. No condition. -/
import Derived.Test.YtklmbgefdopifaaAdL
import Derived.Test.YtklmbgefdopifaaBeamO
namespace Go.Proofs.Ytklmbgefdopifaa
open Go.RowKit Go.ChangeShapes Go.WideShapes Go.ChangeAt Go.Joins Go.Deep

set_option maxRecDepth 100000 in
theorem open_Load {H : Type} {enc : TypeId × Value → H} {W : World} {r : Reach} {base b0 : Nat} {sp : Nat → Bool} {hd : Bool} {v : Value} {d : DataW H} {p : List MemPlace} (hv : Value.okWide Try.prog W r base 26 v) (h : DataW.Trod enc Try.prog W b0 sp hd 26 v d p) :
    ∃ (a0 : Int) (a1 : Int), v = .agg #[.int .i64 a0, .int .i64 a1] ∧ Hid ((Lit.int .i64 a0).wf = true) ∧ Hid ((Lit.int .i64 a1).wf = true) := by
  obtain ⟨cs, rfl, hl, hf⟩ := open_agg Try.underlying26 (by kernel_rfl) (by kernel_rfl) hv h
  match cs, hl with
  | [c0, c1], _ =>
    obtain ⟨n0, y0, g0⟩ := hf 0 _ c0 rfl rfl
    obtain ⟨a0, rfl, w0⟩ := trod_int' Try.underlying2 g0
    obtain ⟨n1, y1, g1⟩ := hf 1 _ c1 rfl rfl
    obtain ⟨a1, rfl, w1⟩ := trod_int' Try.underlying2 g1
    exact ⟨_, _, rfl, w0, w1⟩
set_option maxRecDepth 100000 in
theorem FnExactAddLoad_walk : LawWalk 3 Try.f3 := by
  intro H enc W base args ds p hval hA
  rw [Try.params3] at hA hval
  obtain ⟨v0, vs0, d0, ds0, p0, q0, hargs, rfl, rfl, h0, r0⟩ := trodAll_cons hA
  obtain ⟨v1, vs1, d1, ds1, p1, q1, rfl, rfl, rfl, h1, r1⟩ := trodAll_cons r0
  obtain ⟨rfl, rfl, rfl⟩ := trodAll_nil r1
  obtain rfl : args = #[v0, v1] := by cases args; simp_all
  obtain ⟨x1_0, x1_1, rfl, w1_0, w1_1⟩ := open_Load (hval 1 _ v1 rfl rfl) h1
  obtain ⟨nm, span, wd, dp, wood, A, c, ls, rfl, hs, hS, hl⟩ := open_Beam (hval 0 _ v0 rfl rfl) h0; exact lawAddLoad nm span wd dp wood A c ls x1_0 x1_1 W hS hl hs
set_option maxRecDepth 100000 in
theorem FnExactAddLoad_lifted (os : Os) (started : os.Started) (H : Type) (enc : TypeId × Value → H) :
    ReturnsInHanded {} Try.checked os 3 .any (Rows.fnExactAddLoadSpec.pre6 enc Try.prog Try.f3 Rows.fnExactAddLoadRow.domain false) (Rows.fnExactAddLoadSpec.post enc Try.prog Try.f3 false true false false) :=
  law_lift started H enc (by kernel_rfl) Try.func3
    (ChangeSpec.witness6 (enc := enc) (C := Try.checked) false ⟨#[], #[.agg #[.string ⟨#[]⟩, .int .i64 0, .int .i64 0, .int .i64 0, .int .i64 0, .slice none 0 0], .agg #[.int .i64 0, .int .i64 0]], []⟩ 8 (by kernel_rfl) (by kernel_rfl) (by kernel_rfl) (by kernel_rfl))
    rfl (by kernel_rfl) (fun ds hl => by rw [Try.params3] at hl; match ds, hl with | [d0, d1], _ => rfl) (by kernel_rfl) FnExactAddLoad_walk
theorem FnExactAddLoad_over : Rows.fnExactAddLoadRow.holds Try.pinned (OpenSpec.ofChange Rows.fnExactAddLoadSpec) :=
  OpenClaim.holds_of_wide 3 Try.f3 rfl rfl rfl rfl rfl rfl rfl ⟨rfl, rfl, rfl, rfl, rfl⟩ rfl rfl rfl rfl rfl (by kernel_rfl) Try.func3 (by kernel_rfl)
    (of_decide_eq_true (by kernel_rfl)) (by unfold Func.isWrapper; first | (rw [if_pos (by decide +kernel)]; kernel_rfl) | (rw [if_neg (by decide +kernel)]; exact ⟨rfl, rfl⟩))
    (fun os started H enc _ => FnExactAddLoad_lifted os started H enc)
/-- The statement. -/
theorem FnExactAddLoad_proved : Rows.FnExactAddLoadSaid := FnExactAddLoad_over
#print axioms FnExactAddLoad_proved
end Go.Proofs.Ytklmbgefdopifaa
