/- The search for the greatest force, no program in sight. -/
namespace Go.Proofs.Ytjklhacffdhgaaa.Pu

/-- What a search knows: the nodes left, whether they were too few, the greatest force and its choice. -/
structure S where
  left : Int
  spent : Bool
  most : Int
  best : List Int
/-- Whether a node is entered, and what is known then. -/
def nodeB (c : Bool) (s : S) : Bool := c && !s.spent && !(s.left == 0)
def nodeS (c : Bool) (s : S) : S := if c && !s.spent then (if s.left == 0 then { s with spent := true } else { s with left := s.left - 1 }) else s
def enter (c : Bool) (next : S → S) (s : S) : S := if nodeB c s then next (nodeS c s) else nodeS c s
def sumF : List Int → Int
  | [] => 0
  | x :: l => x + sumF l
/-- What stands behind a place. -/
def rest (fs : List Int) (k : Nat) : Int := sumF (fs.drop (k + 1))
def look (force : Int) (taken : List Int) (s : S) : S := if s.most < force then { s with most := force, best := taken } else s
def pull (fs am : List Int) (lim : Int) : Nat → Nat → List Int → Int → Int → S → S
  | 0, _, _, _, _, s => s
  | f + 1, k, taken, force, sway, s =>
    if k == fs.length then look force taken s
    else
      enter (decide ((enter (decide (sway + am.getD k 0 ≤ lim) && decide (s.most < force + fs.getD k 0 + rest fs k)) (pull fs am lim f (k + 1) (taken ++ [(k : Int)]) (force + fs.getD k 0) (sway + am.getD k 0)) s).most < force + rest fs k)) (pull fs am lim f (k + 1) taken force sway)
        (enter (decide (sway + am.getD k 0 ≤ lim) && decide (s.most < force + fs.getD k 0 + rest fs k)) (pull fs am lim f (k + 1) (taken ++ [(k : Int)]) (force + fs.getD k 0) (sway + am.getD k 0)) s)
section
variable {fs am : List Int} {lim : Int} {f k : Nat} {taken : List Int} {force sway : Int} {s : S}
theorem pull_end (h : k = fs.length) : pull fs am lim (f + 1) k taken force sway s = look force taken s := by simp [pull, h]
/-- The first of the two ways: the swing is taken. -/
def one (fs am : List Int) (lim : Int) (f k : Nat) (taken : List Int) (force sway : Int) (s : S) : S :=
  enter (decide (sway + am.getD k 0 ≤ lim) && decide (s.most < force + fs.getD k 0 + rest fs k)) (pull fs am lim f (k + 1) (taken ++ [(k : Int)]) (force + fs.getD k 0) (sway + am.getD k 0)) s
theorem pull_goes (h : k ≠ fs.length) : pull fs am lim (f + 1) k taken force sway s = enter (decide ((one fs am lim f k taken force sway s).most < force + rest fs k)) (pull fs am lim f (k + 1) taken force sway) (one fs am lim f k taken force sway s) := by
  have e : (k == fs.length) = false := by simpa using h
  rw [pull, e]; rfl
def Inv (s : S) : Prop := 0 ≤ s.left ∧ s.left ≤ 20000 ∧ -1 ≤ s.most ∧ s.most ≤ 100000000 ∧ s.best.length ≤ 16
theorem nodeS_inv {c : Bool} (h : Inv s) : Inv (nodeS c s) := by
  obtain ⟨a, b, d, e, g⟩ := h
  unfold nodeS
  split
  · split
    · exact ⟨a, b, d, e, g⟩
    · rename_i h1
      have h2 : s.left ≠ 0 := by simpa using h1
      exact ⟨by simp only; omega, by simp only; omega, d, e, g⟩
  · exact ⟨a, b, d, e, g⟩
theorem look_inv (h : Inv s) (h0 : 0 ≤ force) (h1 : force ≤ 100000000) (h2 : taken.length ≤ 16) : Inv (look force taken s) := by
  obtain ⟨a, b, d, e, g⟩ := h
  unfold look
  split
  · exact ⟨a, b, by simp only; omega, h1, h2⟩
  · exact ⟨a, b, d, e, g⟩
theorem nodeB_no {c : Bool} (h : nodeB c s = false) {next : S → S} : enter c next s = nodeS c s := by unfold enter; rw [h]; rfl
theorem nodeB_yes {c : Bool} (h : nodeB c s = true) {next : S → S} : enter c next s = next (nodeS c s) := by unfold enter; rw [h]; rfl
theorem node_1 {c : Bool} (h : c = false) : nodeB c s = false ∧ nodeS c s = s := by unfold nodeB nodeS; subst h; exact ⟨rfl, rfl⟩
theorem node_2 {c : Bool} (h : s.spent = true) : nodeB c s = false ∧ nodeS c s = s := by unfold nodeB nodeS; rw [h]; cases c <;> exact ⟨rfl, rfl⟩
theorem node_3 {c : Bool} (h : c = true) (h1 : s.spent = false) (h2 : s.left = 0) : nodeB c s = false ∧ nodeS c s = { s with spent := true } := by unfold nodeB nodeS; subst h; rw [h1, h2]; exact ⟨rfl, rfl⟩
theorem node_4 {c : Bool} (h : c = true) (h1 : s.spent = false) (h2 : s.left ≠ 0) : nodeB c s = true ∧ nodeS c s = { s with left := s.left - 1 } := by
  have e : (s.left == 0) = false := by simpa using h2
  unfold nodeB nodeS; subst h; rw [h1, e]; exact ⟨rfl, rfl⟩
end
end Go.Proofs.Ytjklhacffdhgaaa.Pu
