/- Proved: for every input, laws.FnShortest returns true and leaves its arguments as they were. No condition. -/
import Derived.Test.YtnefgafmnpblpaaGreatPnL2
import Derived.Test.YtnefgafmnpblpaaGreatFrame2
import Derived.Deep.Slices
namespace Go.Proofs.YtnefgafmnpblpaaGreat
open Go.RowKit Go.ChangeShapes Go.WideShapes Go.ChangeAt Go.Joins Go.Deep

set_option maxRecDepth 100000 in
theorem open_Bytes {H : Type} {enc : TypeId × Value → H} {W : World} {r : Reach} {base b0 : Nat} {sp : Nat → Bool} {hd : Bool} {v : Value} {d : DataW H} {p : List MemPlace} (hv : Value.okWide Tryz.prog W r base 22 v) (h : DataW.Trod enc Tryz.prog W b0 sp hd 22 v d p) :
    ∃ (A : Option Addr) (n c : Nat), v = .slice A n c ∧ ByAt W W.heap.size A n ∧ n ≤ 9223372036854775807 := by
  obtain ⟨a0, len, cap, rfl⟩ := okWide_slice Tryz.underlying22 hv
  obtain ⟨fuel, hf⟩ := h
  refine ⟨a0, len, cap, rfl, ?_⟩
  rcases open_slice1 (e := 5) Tryz.underlying22 (by kernel_rfl) (show DataW.trod enc Tryz.prog W b0 sp hd fuel 22 [.slice a0 len cap] = some (d, p) from hf) with ⟨hcs, -⟩ | ⟨a, len', cap', m, n, V, D, Pl, hcs, -, hl, hm, hmm, -, hi⟩
  · injection hcs with hcs _
    injection hcs with h1 h2 h3
    subst h2
    exact ⟨fun k hk => by omega, by omega⟩
  · injection hcs with hcs _
    injection hcs with h1 h2 h3
    subst h1; subst h2; subst h3
    refine ⟨fun k hk => ?_, by unfold maxLen at hm; omega⟩
    have hkm : k < m := by rw [hmm]; split <;> omega
    obtain ⟨hc, ht⟩ := hi k hkm
    obtain ⟨x, ex, hw⟩ := trod_int' Tryz.underlying5 ht
    obtain ⟨ab, ao, sp⟩ := a
    have hspot : sp = none := by
      obtain ⟨hc0, _⟩ := hi 0 (by omega)
      simpa [Addr.add] using World.cell?_spot hc0
    subst hspot
    rw [Addr.add_lit, ex] at hc
    refine ⟨ab, ao, x, rfl, World.block_lt_of_cell? _ _ hc, hc, ?_⟩
    simp [Lit.wf, IntKind.min, IntKind.max, IntKind.signed, IntKind.bits] at hw
    omega
set_option maxRecDepth 100000 in
theorem FnShortest_walk : LawWalk 3 Tryz.f3 := by
  intro H enc W base args ds p hval hA
  rw [Tryz.params3] at hA hval
  obtain ⟨v0, vs0, d0, ds0, p0, q0, hargs, rfl, rfl, h0, r0⟩ := trodAll_cons hA
  obtain ⟨rfl, rfl, rfl⟩ := trodAll_nil r0
  obtain rfl : args = #[v0] := by cases args; simp_all
  obtain ⟨A, n, c, rfl, kA, kn⟩ := open_Bytes (hval 0 _ v0 rfl rfl) h0; exact lawFnShortest A n c W kA kn
set_option maxRecDepth 100000 in
theorem FnShortest_lifted (os : Os) (started : os.Started) (H : Type) (enc : TypeId × Value → H) :
    ReturnsInHanded {} Tryz.checked os 3 .any (Rows.fnShortestSpec.pre6 enc Tryz.prog Tryz.f3 Rows.fnShortestRow.domain false) (Rows.fnShortestSpec.post enc Tryz.prog Tryz.f3 false true false false) :=
  law_lift started H enc (by kernel_rfl) Tryz.func3
    (ChangeSpec.witness6 (enc := enc) (C := Tryz.checked) false ⟨#[], #[.slice none 0 0], []⟩ 8 (by kernel_rfl) (by kernel_rfl) (by kernel_rfl) (by kernel_rfl))
    rfl (by kernel_rfl) (fun ds hl => by rw [Tryz.params3] at hl; match ds, hl with | [d0], _ => rfl) (by kernel_rfl) FnShortest_walk
theorem FnShortest_over : Rows.fnShortestRow.holds Tryz.pinned (OpenSpec.ofChange Rows.fnShortestSpec) :=
  OpenClaim.holds_of_wide 3 Tryz.f3 rfl rfl rfl rfl rfl rfl rfl ⟨rfl, rfl, rfl, rfl, rfl⟩ rfl rfl rfl rfl rfl (by kernel_rfl) Tryz.func3 (by kernel_rfl)
    (of_decide_eq_true (by kernel_rfl)) (by unfold Func.isWrapper; first | (rw [if_pos (by decide +kernel)]; kernel_rfl) | (rw [if_neg (by decide +kernel)]; exact ⟨rfl, rfl⟩))
    (fun os started H enc _ => FnShortest_lifted os started H enc)
/-- The statement. -/
theorem FnShortest_proved : Rows.FnShortestSaid := FnShortest_over
#print axioms FnShortest_proved
end Go.Proofs.YtnefgafmnpblpaaGreat
