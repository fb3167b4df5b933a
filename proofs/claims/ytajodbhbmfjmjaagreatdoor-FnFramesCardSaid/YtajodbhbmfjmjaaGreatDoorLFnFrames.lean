/- Proved: for every input, laws.FnFrames returns true and leaves its arguments as they were, the library's seven listed variables being as the program's text lays them. No other condition. -/
import Derived.Test.YtajodbhbmfjmjaaGreatDoorFrL
import Derived.Test.YtajodbhbmfjmjaaGreatDoorFrameL
import Derived.Test.YtajodbhbmfjmjaaGreatDoorFrame2
import Derived.Test.YtajodbhbmfjmjaaGreatDoorTie
import Derived.Test.YtajodbhbmfjmjaaGreatDoorCards
import Derived.SevenTiedAt
import Derived.Deep.Slices
namespace Go.Proofs.YtajodbhbmfjmjaaGreatDoor
open Go.RowKit Go.ChangeShapes Go.WideShapes Go.ChangeAt Go.Joins Go.Deep

set_option maxRecDepth 100000 in
theorem open_Bytes {H : Type} {enc : TypeId × Value → H} {W : World} {r : Reach} {base b0 : Nat} {sp : Nat → Bool} {hd : Bool} {v : Value} {d : DataW H} {p : List MemPlace} (hv : Value.okWide Tryz.prog W r base 22 v) (h : DataW.Trod enc Tryz.prog W b0 sp hd 22 v d p) :
    ∃ (A : Option Addr) (n c : Nat), v = .slice A n c ∧ ByAt W W.heap.size A n ∧ n ≤ 9223372036854775807 := by
  obtain ⟨a0, len, cap, rfl⟩ := okWide_slice Tryz.underlying22 hv
  obtain ⟨fuel, hf⟩ := h
  refine ⟨a0, len, cap, rfl, ?_⟩
  rcases open_slice1 (e := 5) Tryz.underlying22 (by kernel_rfl) (show DataW.trod enc Tryz.prog W b0 sp hd fuel 22 [.slice a0 len cap] = some (d, p) from hf) with ⟨hcs, -⟩ | ⟨a, len', cap', m, n, V, D, Pl, hcs, -, hl, hm, hmm, -, hi⟩
  · injection hcs with hcs _
    injection hcs with h1 h2 h3
    subst h2
    exact ⟨fun k hk => by omega, by omega⟩
  · injection hcs with hcs _
    injection hcs with h1 h2 h3
    subst h1; subst h2; subst h3
    refine ⟨fun k hk => ?_, by unfold maxLen at hm; omega⟩
    have hkm : k < m := by rw [hmm]; split <;> omega
    obtain ⟨hc, ht⟩ := hi k hkm
    obtain ⟨x, ex, hw⟩ := trod_int' Tryz.underlying5 ht
    obtain ⟨ab, ao, sp⟩ := a
    have hspot : sp = none := by
      obtain ⟨hc0, _⟩ := hi 0 (by omega)
      simpa [Addr.add] using World.cell?_spot hc0
    subst hspot
    rw [Addr.add_lit, ex] at hc
    refine ⟨ab, ao, x, rfl, World.block_lt_of_cell? _ _ hc, hc, ?_⟩
    simp [Lit.wf, IntKind.min, IntKind.max, IntKind.signed, IntKind.bits] at hw
    omega
set_option maxRecDepth 100000 in
theorem FnFrames_walk : LawWalkL Rows.fnFramesRow.laid 3 Tryz.f3 := by
  intro H enc W base args ds p hsh hL hval hA
  rw [Tryz.params3] at hA hval
  obtain ⟨v0, vs0, d0, ds0, p0, q0, hargs, rfl, rfl, h0, r0⟩ := trodAll_cons hA
  obtain ⟨v1, vs1, d1, ds1, p1, q1, rfl, rfl, rfl, h1, r1⟩ := trodAll_cons r0
  obtain ⟨rfl, rfl, rfl⟩ := trodAll_nil r1
  obtain rfl : args = #[v0, v1] := by cases args; simp_all
  obtain ⟨A, n, c, rfl, kA, kn⟩ := open_Bytes (hval 0 _ v0 rfl rfl) h0; obtain ⟨A', n', c', rfl, kA', kn'⟩ := open_Bytes (hval 1 _ v1 rfl rfl) h1; exact lawFnFrames A A' n c n' c' W (env_of_all hsh ((MakeChecks.laidMetH_plain _ _ _ (by kernel_rfl)) ▸ hL)) kA kA' kn kn'
theorem FnFrames_met (os : Os) (args : Array Value) : laidMetH Tryz.prog Rows.fnFramesRow.laid ((World.laidAll Tryz.prog os Rows.fnFramesRow.laid).forCall (fun _ _ => 0) ⟨#[], args, []⟩).memory :=
  by rw [MakeChecks.laidMetH_plain _ _ _ (by kernel_rfl)]; exact laidMet_laidAll _ (by kernel_rfl) (by kernel_rfl)
set_option maxRecDepth 100000 in
theorem FnFrames_lifted (os : Os) (started : os.Started) (H : Type) (enc : TypeId × Value → H) :
    ReturnsInHanded {} Tryz.checked os 3 .any (fun w args => (Rows.fnFramesSpec.pre enc Tryz.prog Tryz.f3 Rows.fnFramesRow.domain false w args ∧ laidMetH Tryz.prog Rows.fnFramesRow.laid w) ∧ sizedMet enc Tryz.prog Tryz.f3 (OpenSpec.ofChange Rows.fnFramesSpec) false w args) (Rows.fnFramesSpec.post enc Tryz.prog Tryz.f3 false true false false) :=
  law_lift_laid started H enc (by kernel_rfl) Tryz.func3
    (ChangeSpec.witness_shaped (enc := enc) (C := Tryz.checked) (os := os) (X := fun w _ => laidMetH Tryz.prog Rows.fnFramesRow.laid w) false (World.laidAll Tryz.prog os Rows.fnFramesRow.laid) #[.slice none 0 0, .slice none 0 0] 8 (World.laidAll_os _ _ _) (World.shaped_of_ZipB (by kernel_rfl) (by kernel_rfl)) (by kernel_rfl) (by kernel_rfl) (by kernel_rfl) (FnFrames_met os _))
    rfl (by kernel_rfl) (fun ds hl => by rw [Tryz.params3] at hl; match ds, hl with | [d0, d1], _ => rfl) (by kernel_rfl) FnFrames_walk
theorem FnFrames_over : Rows.fnFramesRow.holds Tryz.pinned (OpenSpec.ofChange Rows.fnFramesSpec) :=
  OpenClaim.holds_of_wide 3 Tryz.f3 rfl rfl rfl rfl rfl rfl rfl ⟨rfl, rfl, rfl, rfl, rfl⟩ rfl rfl rfl rfl rfl (by kernel_rfl) Tryz.func3 (by kernel_rfl)
    (of_decide_eq_true (by kernel_rfl)) (by unfold Func.isWrapper; first | (rw [if_pos (by decide +kernel)]; kernel_rfl) | (rw [if_neg (by decide +kernel)]; exact ⟨rfl, rfl⟩))
    (fun os started H enc _ => FnFrames_lifted os started H enc)
set_option maxRecDepth 100000 in
/-- The statement: the tied card. -/
theorem FnFrames_proved : Rows.FnFramesCardSaid :=
  Claim7.holds_tied_plain_at .later [] [.data, .data, .data, .data, .sentinel, .sentinel, .pinned] true (true, "5dda28dc48365218a38938ae589e4d0385646a76f6393fd7d8996fe1f3005b25") true
    FnFrames_over (fun _ h => by cases h) (by kernel_rfl) (fun _ h => by cases h) fnFrames_row_tie rfl ⟨rfl, rfl⟩ (by kernel_rfl) rfl
    (fun f fn hf hfn => by
      obtain rfl : f = 3 := Option.some.inj ((show Tryz.prog.funcNamed _ = some 3 by kernel_rfl).symm.trans hf) |>.symm
      obtain rfl : fn = Tryz.f3 := (Option.some.inj (Tryz.func3.symm.trans hfn)).symm
      exact ⟨by kernel_rfl, fun j t ht => by
        have hm : t ∈ Tryz.f3.params.toList := by simpa using Array.mem_of_getElem? ht
        have hall : (Tryz.f3.params.toList.all fun u => !Tryz.prog.wantsStandIn u) = true := by kernel_rfl
        exact (show Tryz.prog.wantsStandIn t = false by simpa using List.all_eq_true.1 hall t hm)⟩)
    (by kernel_rfl)
#print axioms FnFrames_proved
end Go.Proofs.YtajodbhbmfjmjaaGreatDoor
