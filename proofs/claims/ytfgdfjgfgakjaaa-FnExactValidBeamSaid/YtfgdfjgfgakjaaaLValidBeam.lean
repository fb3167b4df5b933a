/- Proved: for every input, laws.FnExactValidBeam returns true and leaves its arguments as they were. No condition. -/
import Derived.Test.YtfgdfjgfgakjaaaBeam2
import Derived.Test.YtfgdfjgfgakjaaaFrame2
namespace Go.Proofs.Ytfgdfjgfgakjaaa
open Go.RowKit Go.ChangeShapes Go.WideShapes Go.ChangeAt Go.Joins Go.Deep

set_option maxRecDepth 100000 in
theorem open_Load_cell {H : Type} {enc : TypeId × Value → H} {W : World} {b0 : Nat} {sp : Nat → Bool} {hd : Bool} {fuel : Nat} {v : Value} {y : DataW H × List MemPlace} (h : DataW.trod enc Try.prog W b0 sp hd fuel 57 [v] = some y) :
    ∃ (A : Option Addr) (c : Nat) (xs : List LoadR), v = .slice A xs.length c ∧ SlAt encLoad 2 W A xs ∧ (∀ x ∈ xs, True) ∧ xs.length ≤ maxLen := by
  refine open_rows (en := encLoad) (good := fun x => True) Try.underlying57 Try.underlying120 (by kernel_rfl) (by kernel_rfl) (by decide) (fun _ => rfl) ?_ h
  intro vs hf
  obtain ⟨n0, y0, g0⟩ := hf 0 _ rfl
  obtain ⟨a0, e0, w0⟩ := trod_int' Try.underlying2 g0
  obtain ⟨n1, y1, g1⟩ := hf 1 _ rfl
  obtain ⟨a1, e1, w1⟩ := trod_int' Try.underlying2 g1
  refine ⟨⟨a0, a1⟩, trivial, fun j v hj => ?_⟩
  match j, hj with
  | 0, hj => injection hj with hj; rw [← hj]; exact e0.symm
  | 1, hj => injection hj with hj; rw [← hj]; exact e1.symm
set_option maxRecDepth 100000 in
theorem open_LoadS {H : Type} {enc : TypeId × Value → H} {W : World} {r : Reach} {base b0 : Nat} {sp : Nat → Bool} {hd : Bool} {v : Value} {d : DataW H} {p : List MemPlace} (hv : Value.okWide Try.prog W r base 57 v) (h : DataW.Trod enc Try.prog W b0 sp hd 57 v d p) :
    ∃ (A : Option Addr) (c : Nat) (xs : List LoadR), v = .slice A xs.length c ∧ SlAt encLoad 2 W A xs ∧ (∀ x ∈ xs, True) ∧ xs.length ≤ maxLen := by
  obtain ⟨a0, len, cap, rfl⟩ := okWide_slice Try.underlying57 hv
  obtain ⟨fuel, hf⟩ := h
  refine open_rows (en := encLoad) (good := fun x => True) Try.underlying57 Try.underlying120 (by kernel_rfl) (by kernel_rfl) (by decide) (fun _ => rfl) ?_ (show DataW.trod enc Try.prog W b0 sp hd fuel 57 [.slice a0 len cap] = some (d, p) from hf)
  intro vs hf
  obtain ⟨n0, y0, g0⟩ := hf 0 _ rfl
  obtain ⟨a0, e0, w0⟩ := trod_int' Try.underlying2 g0
  obtain ⟨n1, y1, g1⟩ := hf 1 _ rfl
  obtain ⟨a1, e1, w1⟩ := trod_int' Try.underlying2 g1
  refine ⟨⟨a0, a1⟩, trivial, fun j v hj => ?_⟩
  match j, hj with
  | 0, hj => injection hj with hj; rw [← hj]; exact e0.symm
  | 1, hj => injection hj with hj; rw [← hj]; exact e1.symm
set_option maxRecDepth 100000 in
theorem open_Beam0 {H : Type} {enc : TypeId × Value → H} {W : World} {r : Reach} {base b0 : Nat} {sp : Nat → Bool} {hd : Bool} {v : Value} {d : DataW H} {p : List MemPlace} (hv : Value.okWide Try.prog W r base 59 v) (h : DataW.Trod enc Try.prog W b0 sp hd 59 v d p) :
    ∃ (a0 : ByteArray) (a1 : Int) (a2 : Int) (a3 : Int) (a4 : Int) (a5 : Value), v = .agg #[.string a0, .int .i64 a1, .int .i64 a2, .int .i64 a3, .int .i64 a4, a5] ∧ a0.size ≤ maxLen ∧ Hid ((Lit.int .i64 a1).wf = true) ∧ Hid ((Lit.int .i64 a2).wf = true) ∧ Hid ((Lit.int .i64 a3).wf = true) ∧ Hid ((Lit.int .i64 a4).wf = true) ∧ (∃ (n : Nat) (y : DataW H × List MemPlace), DataW.trod enc Try.prog W b0 sp hd n 57 [a5] = some y) := by
  obtain ⟨cs, rfl, hl, hf⟩ := open_agg Try.underlying59 (by kernel_rfl) (by kernel_rfl) hv h
  match cs, hl with
  | [c0, c1, c2, c3, c4, c5], _ =>
    obtain ⟨n0, y0, g0⟩ := hf 0 _ c0 rfl rfl
    obtain ⟨a0, rfl, w0⟩ := trod_string' Try.underlying9 g0
    obtain ⟨n1, y1, g1⟩ := hf 1 _ c1 rfl rfl
    obtain ⟨a1, rfl, w1⟩ := trod_int' Try.underlying2 g1
    obtain ⟨n2, y2, g2⟩ := hf 2 _ c2 rfl rfl
    obtain ⟨a2, rfl, w2⟩ := trod_int' Try.underlying2 g2
    obtain ⟨n3, y3, g3⟩ := hf 3 _ c3 rfl rfl
    obtain ⟨a3, rfl, w3⟩ := trod_int' Try.underlying2 g3
    obtain ⟨n4, y4, g4⟩ := hf 4 _ c4 rfl rfl
    obtain ⟨a4, rfl, w4⟩ := trod_int' Try.underlying2 g4
    obtain ⟨n5, y5, g5⟩ := hf 5 _ c5 rfl rfl
    exact ⟨_, _, _, _, _, _, rfl, w0, w1, w2, w3, w4, ⟨_, _, g5⟩⟩
set_option maxRecDepth 100000 in
theorem open_Beam {H : Type} {enc : TypeId × Value → H} {W : World} {r : Reach} {base b0 : Nat} {sp : Nat → Bool} {hd : Bool} {v : Value} {d : DataW H} {p : List MemPlace} (hv : Value.okWide Try.prog W r base 59 v) (h : DataW.Trod enc Try.prog W b0 sp hd 59 v d p) :
    ∃ (nm : ByteArray) (span wd dp wood : Int) (A : Option Addr) (c : Nat) (ls : List LoadR), v = .agg #[.string nm, .int .i64 span, .int .i64 wd, .int .i64 dp, .int .i64 wood, .slice A ls.length c] ∧ nm.size ≤ maxLen ∧ SlAt encLoad 2 W A ls ∧ ls.length ≤ 9223372036854775807 := by
  obtain ⟨a0, a1, a2, a3, a4, a5, rfl, w0, _, _, _, _, n, y, h5⟩ := open_Beam0 hv h
  obtain ⟨A, c, ls, rfl, hS, -, hl⟩ := open_Load_cell h5
  exact ⟨a0, a1, a2, a3, a4, A, c, ls, rfl, w0, hS, by unfold maxLen at hl; omega⟩
set_option maxRecDepth 100000 in
theorem FnExactValidBeam_walk : LawWalk 14 Try.f14 := by
  intro H enc W base args ds p hval hA
  rw [Try.params14] at hA hval
  obtain ⟨v0, vs0, d0, ds0, p0, q0, hargs, rfl, rfl, h0, r0⟩ := trodAll_cons hA
  obtain ⟨rfl, rfl, rfl⟩ := trodAll_nil r0
  obtain rfl : args = #[v0] := by cases args; simp_all
  obtain ⟨nm, span, wd, dp, wood, A, c, ls, rfl, hs, hS, hl⟩ := open_Beam (hval 0 _ v0 rfl rfl) h0; exact lawValidBeam nm span wd dp wood A c ls W hS hl hs
set_option maxRecDepth 100000 in
theorem FnExactValidBeam_lifted (os : Os) (started : os.Started) (H : Type) (enc : TypeId × Value → H) :
    ReturnsInHanded {} Try.checked os 14 .any (Rows.fnExactValidBeamSpec.pre6 enc Try.prog Try.f14 Rows.fnExactValidBeamRow.domain false) (Rows.fnExactValidBeamSpec.post enc Try.prog Try.f14 false true false false) :=
  law_lift started H enc (by kernel_rfl) Try.func14
    (ChangeSpec.witness6 (enc := enc) (C := Try.checked) false ⟨#[], #[.agg #[.string ⟨#[]⟩, .int .i64 0, .int .i64 0, .int .i64 0, .int .i64 0, .slice none 0 0]], []⟩ 8 (by kernel_rfl) (by kernel_rfl) (by kernel_rfl) (by kernel_rfl))
    rfl (by kernel_rfl) (fun ds hl => by rw [Try.params14] at hl; match ds, hl with | [d0], _ => rfl) (by kernel_rfl) FnExactValidBeam_walk
theorem FnExactValidBeam_over : Rows.fnExactValidBeamRow.holds Try.pinned (OpenSpec.ofChange Rows.fnExactValidBeamSpec) :=
  OpenClaim.holds_of_wide 14 Try.f14 rfl rfl rfl rfl rfl rfl rfl ⟨rfl, rfl, rfl, rfl, rfl⟩ rfl rfl rfl rfl rfl (by kernel_rfl) Try.func14 (by kernel_rfl)
    (of_decide_eq_true (by kernel_rfl)) (by unfold Func.isWrapper; first | (rw [if_pos (by decide +kernel)]; kernel_rfl) | (rw [if_neg (by decide +kernel)]; exact ⟨rfl, rfl⟩))
    (fun os started H enc _ => FnExactValidBeam_lifted os started H enc)
/-- The statement. -/
theorem FnExactValidBeam_proved : Rows.FnExactValidBeamSaid := FnExactValidBeam_over
#print axioms FnExactValidBeam_proved
end Go.Proofs.Ytfgdfjgfgakjaaa
