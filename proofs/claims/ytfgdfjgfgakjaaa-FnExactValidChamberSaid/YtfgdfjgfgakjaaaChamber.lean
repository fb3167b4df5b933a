/- The chamber: validity on both sides, and the law. -/
import Derived.Test.YtfgdfjgfgakjaaaBasics
import Derived.Test.YtfgdfjgfgakjaaaFrame
namespace Go.Proofs.Ytfgdfjgfgakjaaa
open Go.RowKit Go.ChangeShapes Go.WideShapes Go.ChangeAt Go.Joins Go.Deep

set_option maxRecDepth 100000 in
theorem open_Chamber {H : Type} {enc : TypeId × Value → H} {W : World} {r : Reach} {base b0 : Nat} {sp : Nat → Bool} {hd : Bool} {v : Value} {d : DataW H} {p : List MemPlace} (hv : Value.okWide Try.prog W r base 23 v) (h : DataW.Trod enc Try.prog W b0 sp hd 23 v d p) :
    ∃ (a0 : Int) (a1 : Int) (a2 : Int), v = .agg #[.int .i64 a0, .int .i64 a1, .int .i64 a2] ∧ Hid ((Lit.int .i64 a0).wf = true) ∧ Hid ((Lit.int .i64 a1).wf = true) ∧ Hid ((Lit.int .i64 a2).wf = true) := by
  obtain ⟨cs, rfl, hl, hf⟩ := open_agg Try.underlying23 (by kernel_rfl) (by kernel_rfl) hv h
  match cs, hl with
  | [c0, c1, c2], _ =>
    obtain ⟨n0, y0, g0⟩ := hf 0 _ c0 rfl rfl
    obtain ⟨a0, rfl, w0⟩ := trod_int' Try.underlying2 g0
    obtain ⟨n1, y1, g1⟩ := hf 1 _ c1 rfl rfl
    obtain ⟨a1, rfl, w1⟩ := trod_int' Try.underlying2 g1
    obtain ⟨n2, y2, g2⟩ := hf 2 _ c2 rfl rfl
    obtain ⟨a2, rfl, w2⟩ := trod_int' Try.underlying2 g2
    exact ⟨_, _, _, rfl, w0, w1, w2⟩

def vCh (a b c : Int) : Bool := inB a 1 20000 && inB b 1 20000 && inB c 1 20000

theorem implValidChamber (a b c : Int) (w : World) : Calls Try.prog 17 #[.agg #[.int .i64 a, .int .i64 b, .int .i64 c]] w fun e w' =>
    e = .returned (.bool (vCh a b c)) ∧ w.alloc (.cells #[.int .i64 a, .int .i64 b, .int .i64 c] 25) = w' := by
  have e : Hid (vCh a b c = (inB a 1 20000 && inB b 1 20000 && inB c 1 20000)) := hide rfl
  cases h1 : inB a 1 20000 <;> cases h2 : inB b 1 20000 <;> cases h3 : inB c 1 20000
  all_goals
    go_enter Try.func17, Try.ntmps17
    go_wp2_with (go_at_call 56; refine (implwithin_any _ _ _ _).mono ?_; rintro e w' ⟨rfl, rfl⟩)
    go_ret
    exact ⟨ret_bool (by rw [e.out, h1, h2, h3]; rfl), rfl⟩
theorem specl23Chamber (bl : Nat) (a b c : Int) (w : World) (c0 : w.cell? ⟨bl, 0, none⟩ = some (.int .i64 a)) (c1 : w.cell? ⟨bl, 1, none⟩ = some (.int .i64 b)) (c2 : w.cell? ⟨bl, 2, none⟩ = some (.int .i64 c)) :
    Calls Try.prog 55 #[.pointer (some ⟨bl, 0, none⟩)] w fun e w' => e = .returned (.bool (vCh a b c)) ∧ w = w' := by
  have e : Hid (vCh a b c = (inB a 1 20000 && inB b 1 20000 && inB c 1 20000)) := hide rfl
  cases h1 : inB a 1 20000 <;> cases h2 : inB b 1 20000 <;> cases h3 : inB c 1 20000
  all_goals
    go_enter Try.func55, Try.ntmps55
    go_wp2_with (go_at_call 59; refine (specl00In_any _ _ _ _).mono ?_; rintro e w' ⟨rfl, rfl⟩)
    go_ret
    exact ⟨ret_bool (by rw [e.out, h1, h2, h3]; rfl), rfl⟩
theorem specValidChamber (a b c : Int) (w : World) : Calls Try.prog 15 #[.agg #[.int .i64 a, .int .i64 b, .int .i64 c]] w fun e w' =>
    e = .returned (.bool (vCh a b c)) ∧ w.alloc (.cells #[.int .i64 a, .int .i64 b, .int .i64 c] 25) = w' := by
  go_enter Try.func15, Try.ntmps15
  go_wp2_with (go_at_call 55; refine (specl23Chamber _ a b c _ (by simp) (by simp) (by simp)).mono ?_; rintro e w' ⟨rfl, rfl⟩)
  go_ret
  exact ⟨rfl, rfl⟩
theorem lawstoChamber (a b c : Int) (w : World) : Calls Try.prog 16 #[.agg #[.int .i64 a, .int .i64 b, .int .i64 c]] w fun e w' =>
    e = .returned (.agg #[.int .i64 a, .int .i64 b, .int .i64 c]) ∧ ((w.alloc (.cells #[.int .i64 a, .int .i64 b, .int .i64 c] 23)).alloc (.cells #[.int .i64 a, .int .i64 b, .int .i64 c] 25)).alloc (.cells #[.int .i64 a, .int .i64 b, .int .i64 c] 25) = w' := by
  go_enter Try.func16, Try.ntmps16
  go_wp2
  simp [bodyPost, results, Try.results16, go_sem]
theorem lawValidChamber (a b c : Int) (w : World) : Calls Try.prog 3 #[.agg #[.int .i64 a, .int .i64 b, .int .i64 c]] w fun e w' =>
    e = .returned (.bool true) ∧ Below w.heap.size w w' := by
  go_enter Try.func3, Try.ntmps3
  go_wp2_with (first
    | (go_at_call 16; refine (lawstoChamber a b c _).mono ?_; rintro e w' ⟨rfl, rfl⟩)
    | (go_at_call 15; refine (specValidChamber a b c _).mono ?_; rintro e w' ⟨rfl, rfl⟩)
    | (go_at_call 17; refine (implValidChamber a b c _).mono ?_; rintro e w' ⟨rfl, rfl⟩))
  go_ret
  exact ⟨rfl, (by repeat (first | exact Below.refl _ _ | refine Below.alloc ?_ (by simp <;> omega) _ | refine Below.drew ?_ | refine Below.setCell ?_ (by simp <;> omega) _ | (refine Below.trans ?_ (Below.mono (by assumption) (by simp <;> omega)))))⟩
set_option maxRecDepth 100000 in
theorem FnExactValidChamber_walk : LawWalk 3 Try.f3 := by
  intro H enc W base args ds p hval hA
  rw [Try.params3] at hA hval
  obtain ⟨v0, vs0, d0, ds0, p0, q0, hargs, rfl, rfl, h0, r0⟩ := trodAll_cons hA
  obtain ⟨rfl, rfl, rfl⟩ := trodAll_nil r0
  obtain rfl : args = #[v0] := by cases args; simp_all
  obtain ⟨a, b, c, rfl, -⟩ := open_Chamber (hval 0 _ v0 rfl rfl) h0
  exact lawValidChamber a b c W
set_option maxRecDepth 100000 in
theorem FnExactValidChamber_lifted (os : Os) (started : os.Started) (H : Type) (enc : TypeId × Value → H) :
    ReturnsInHanded {} Try.checked os 3 .any (Rows.fnExactValidChamberSpec.pre6 enc Try.prog Try.f3 Rows.fnExactValidChamberRow.domain false) (Rows.fnExactValidChamberSpec.post enc Try.prog Try.f3 false true false false) :=
  law_lift started H enc (by kernel_rfl) Try.func3
    (ChangeSpec.witness6 (enc := enc) (C := Try.checked) false ⟨#[], #[.agg #[.int .i64 0, .int .i64 0, .int .i64 0]], []⟩ 8 (by kernel_rfl) (by kernel_rfl) (by kernel_rfl) (by kernel_rfl))
    rfl (by kernel_rfl) (fun ds hl => by rw [Try.params3] at hl; match ds, hl with | [d0], _ => rfl) (by kernel_rfl) FnExactValidChamber_walk
theorem FnExactValidChamber_over : Rows.fnExactValidChamberRow.holds Try.pinned (OpenSpec.ofChange Rows.fnExactValidChamberSpec) :=
  OpenClaim.holds_of_wide 3 Try.f3 rfl rfl rfl rfl rfl rfl rfl ⟨rfl, rfl, rfl, rfl, rfl⟩ rfl rfl rfl rfl rfl (by kernel_rfl) Try.func3 (by kernel_rfl)
    (of_decide_eq_true (by kernel_rfl)) (by unfold Func.isWrapper; first | (rw [if_pos (by decide +kernel)]; kernel_rfl) | (rw [if_neg (by decide +kernel)]; exact ⟨rfl, rfl⟩))
    (fun os started H enc _ => FnExactValidChamber_lifted os started H enc)
/-- The statement. -/
theorem FnExactValidChamber_proved : Rows.FnExactValidChamberSaid := FnExactValidChamber_over
#print axioms FnExactValidChamber_proved
end Go.Proofs.Ytfgdfjgfgakjaaa
