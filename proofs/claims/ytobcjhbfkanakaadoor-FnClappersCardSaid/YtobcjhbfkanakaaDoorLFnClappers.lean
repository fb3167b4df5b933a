/- Proved: for every input, laws.FnClappers returns true and leaves its arguments as they were, the library's seven listed variables being as the program's text lays them. No other condition. -/
import Derived.Test.YtobcjhbfkanakaaDoorClM
import Derived.Test.YtobcjhbfkanakaaDoorFrameL
import Derived.Test.YtobcjhbfkanakaaDoorFrame2
import Derived.Test.YtobcjhbfkanakaaDoorTie
import Derived.Test.YtobcjhbfkanakaaDoorCards
import Derived.SevenTiedAt
import Derived.Deep.Slices
namespace Go.Proofs.YtobcjhbfkanakaaDoor
open Go.RowKit Go.ChangeShapes Go.WideShapes Go.ChangeAt Go.Joins Go.Deep

set_option maxRecDepth 100000 in
theorem open_Bytes {H : Type} {enc : TypeId × Value → H} {W : World} {r : Reach} {base b0 : Nat} {sp : Nat → Bool} {hd : Bool} {v : Value} {d : DataW H} {p : List MemPlace} (hv : Value.okWide Tryd.prog W r base 22 v) (h : DataW.Trod enc Tryd.prog W b0 sp hd 22 v d p) :
    ∃ (A : Option Addr) (n c : Nat), v = .slice A n c ∧ ByAt W W.heap.size A n ∧ n ≤ 9223372036854775807 := by
  obtain ⟨a0, len, cap, rfl⟩ := okWide_slice Tryd.underlying22 hv
  obtain ⟨fuel, hf⟩ := h
  refine ⟨a0, len, cap, rfl, ?_⟩
  rcases open_slice1 (e := 5) Tryd.underlying22 (by kernel_rfl) (show DataW.trod enc Tryd.prog W b0 sp hd fuel 22 [.slice a0 len cap] = some (d, p) from hf) with ⟨hcs, -⟩ | ⟨a, len', cap', m, n, V, D, Pl, hcs, -, hl, hm, hmm, -, hi⟩
  · injection hcs with hcs _
    injection hcs with h1 h2 h3
    subst h2
    exact ⟨fun k hk => by omega, by omega⟩
  · injection hcs with hcs _
    injection hcs with h1 h2 h3
    subst h1; subst h2; subst h3
    refine ⟨fun k hk => ?_, by unfold maxLen at hm; omega⟩
    have hkm : k < m := by rw [hmm]; split <;> omega
    obtain ⟨hc, ht⟩ := hi k hkm
    obtain ⟨x, ex, hw⟩ := trod_int' Tryd.underlying5 ht
    obtain ⟨ab, ao, sp⟩ := a
    have hspot : sp = none := by
      obtain ⟨hc0, _⟩ := hi 0 (by omega)
      simpa [Addr.add] using World.cell?_spot hc0
    subst hspot
    rw [Addr.add_lit, ex] at hc
    refine ⟨ab, ao, x, rfl, World.block_lt_of_cell? _ _ hc, hc, ?_⟩
    simp [Lit.wf, IntKind.min, IntKind.max, IntKind.signed, IntKind.bits] at hw
    omega
set_option maxRecDepth 100000 in
theorem FnClappers_walk : LawWalkL Rows.fnClappersRow.laid 3 Tryd.f3 := by
  intro H enc W base args ds p hsh hL hval hA
  rw [Tryd.params3] at hA hval
  obtain ⟨v0, vs0, d0, ds0, p0, q0, hargs, rfl, rfl, h0, r0⟩ := trodAll_cons hA
  obtain ⟨v1, vs1, d1, ds1, p1, q1, rfl, rfl, rfl, h1, r1⟩ := trodAll_cons r0
  obtain ⟨rfl, rfl, rfl⟩ := trodAll_nil r1
  obtain rfl : args = #[v0, v1] := by cases args; simp_all
  obtain ⟨A, n, c, rfl, kA, kn⟩ := open_Bytes (hval 0 _ v0 rfl rfl) h0; obtain ⟨A', n', c', rfl, kA', kn'⟩ := open_Bytes (hval 1 _ v1 rfl rfl) h1; exact lawFnClappers A A' n c n' c' W (env_of_all hsh ((MakeChecks.laidMetH_plain _ _ _ (by kernel_rfl)) ▸ hL)) kA kA' kn kn'
theorem FnClappers_met (os : Os) (args : Array Value) : laidMetH Tryd.prog Rows.fnClappersRow.laid ((World.laidAll Tryd.prog os Rows.fnClappersRow.laid).forCall (fun _ _ => 0) ⟨#[], args, []⟩).memory :=
  by rw [MakeChecks.laidMetH_plain _ _ _ (by kernel_rfl)]; exact laidMet_laidAll _ (by kernel_rfl) (by kernel_rfl)
set_option maxRecDepth 100000 in
theorem FnClappers_lifted (os : Os) (started : os.Started) (H : Type) (enc : TypeId × Value → H) :
    ReturnsInHanded {} Tryd.checked os 3 .any (fun w args => (Rows.fnClappersSpec.pre enc Tryd.prog Tryd.f3 Rows.fnClappersRow.domain false w args ∧ laidMetH Tryd.prog Rows.fnClappersRow.laid w) ∧ sizedMet enc Tryd.prog Tryd.f3 (OpenSpec.ofChange Rows.fnClappersSpec) false w args) (Rows.fnClappersSpec.post enc Tryd.prog Tryd.f3 false true false false) :=
  law_lift_laid started H enc (by kernel_rfl) Tryd.func3
    (ChangeSpec.witness_shaped (enc := enc) (C := Tryd.checked) (os := os) (X := fun w _ => laidMetH Tryd.prog Rows.fnClappersRow.laid w) false (World.laidAll Tryd.prog os Rows.fnClappersRow.laid) #[.slice none 0 0, .slice none 0 0] 8 (World.laidAll_os _ _ _) (World.shaped_of_ZipB (by kernel_rfl) (by kernel_rfl)) (by kernel_rfl) (by kernel_rfl) (by kernel_rfl) (FnClappers_met os _))
    rfl (by kernel_rfl) (fun ds hl => by rw [Tryd.params3] at hl; match ds, hl with | [d0, d1], _ => rfl) (by kernel_rfl) FnClappers_walk
theorem FnClappers_over : Rows.fnClappersRow.holds Tryd.pinned (OpenSpec.ofChange Rows.fnClappersSpec) :=
  OpenClaim.holds_of_wide 3 Tryd.f3 rfl rfl rfl rfl rfl rfl rfl ⟨rfl, rfl, rfl, rfl, rfl⟩ rfl rfl rfl rfl rfl (by kernel_rfl) Tryd.func3 (by kernel_rfl)
    (of_decide_eq_true (by kernel_rfl)) (by unfold Func.isWrapper; first | (rw [if_pos (by decide +kernel)]; kernel_rfl) | (rw [if_neg (by decide +kernel)]; exact ⟨rfl, rfl⟩))
    (fun os started H enc _ => FnClappers_lifted os started H enc)
set_option maxRecDepth 100000 in
/-- The statement: the tied card. -/
theorem FnClappers_proved : Rows.FnClappersCardSaid :=
  Claim7.holds_tied_plain_at .later [] [.data, .data, .data, .data, .sentinel, .sentinel, .pinned] true (true, "e6b36773b02a322ff90a73910602609b9d958ec04d3373b537291178bddb6fad") true
    FnClappers_over (fun _ h => by cases h) (by kernel_rfl) (fun _ h => by cases h) fnClappers_row_tie rfl ⟨rfl, rfl⟩ (by kernel_rfl) rfl
    (fun f fn hf hfn => by
      obtain rfl : f = 3 := Option.some.inj ((show Tryd.prog.funcNamed _ = some 3 by kernel_rfl).symm.trans hf) |>.symm
      obtain rfl : fn = Tryd.f3 := (Option.some.inj (Tryd.func3.symm.trans hfn)).symm
      exact ⟨by kernel_rfl, fun j t ht => by
        have hm : t ∈ Tryd.f3.params.toList := by simpa using Array.mem_of_getElem? ht
        have hall : (Tryd.f3.params.toList.all fun u => !Tryd.prog.wantsStandIn u) = true := by kernel_rfl
        exact (show Tryd.prog.wantsStandIn t = false by simpa using List.all_eq_true.1 hall t hm)⟩)
    (by kernel_rfl)
#print axioms FnClappers_proved
end Go.Proofs.YtobcjhbfkanakaaDoor
