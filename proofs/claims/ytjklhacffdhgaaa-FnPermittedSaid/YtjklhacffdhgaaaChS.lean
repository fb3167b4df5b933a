/- The search for charges, no program in sight: the state, a visit, what ends it. -/
namespace Go.Proofs.Ytjklhacffdhgaaa.Ch

/-- What a search knows: the nodes left, whether they were too few, how many charges fit, the best of them and its mass. -/
structure S where
  left : Int
  spent : Bool
  count : Int
  best : List Int
  least : Int
/-- Whether a search has ended. -/
def ended (first : Bool) (s : S) : Bool := s.spent || (first && decide (0 < s.count))
/-- Whether a charge is better than what is known. -/
def better (mass : Int) (s : S) : Bool := s.count == 0 || decide (mass < s.least)
/-- A charge is looked at. -/
def look (fit : Bool) (ch : List Int) (mass : Int) (s : S) : S :=
  if fit then ⟨s.left, s.spent, s.count + 1, if better mass s then ch else s.best, if better mass s then mass else s.least⟩ else s
/-- The rounds of a loop: m of them, from k on. -/
def rounds (step : Nat → S → S) : Nat → Nat → S → S
  | 0, _, s => s
  | m + 1, k, s => rounds step m (k + 1) (step k s)
/-- A visit of a charge, whose next ingot may be k0 or a later one; n nested visits at most. -/
def srch (first : Bool) (fit : List Int → Bool) (ms : List Int) (most : Int) : Nat → List Int → Int → Nat → S → S
  | 0, _, _, _, s => s
  | f + 1, ch, mass, k0, s =>
    if ended first s then s
    else if s.left == 0 then { s with spent := true }
    else rounds (fun k s => if mass + ms.getD k 0 ≤ most then srch first fit ms most f (ch ++ [(k : Int)]) (mass + ms.getD k 0) (k + 1) s else s) (ms.length - k0) k0 (look (fit ch) ch mass { s with left := s.left - 1 })
/-- One round of a visit. -/
def step (first : Bool) (fit : List Int → Bool) (ms : List Int) (most : Int) (f : Nat) (ch : List Int) (mass : Int) (k : Nat) (s : S) : S :=
  if mass + ms.getD k 0 ≤ most then srch first fit ms most f (ch ++ [(k : Int)]) (mass + ms.getD k 0) (k + 1) s else s
theorem rounds_more {stp : Nat → S → S} {n k : Nat} {s : S} (h : k < n) : rounds stp (n - k) k s = rounds stp (n - (k + 1)) (k + 1) (stp k s) := by
  rw [show n - k = (n - (k + 1)) + 1 by omega]; rfl
theorem rounds_none {stp : Nat → S → S} {n k : Nat} {s : S} (h : n ≤ k) : rounds stp (n - k) k s = s := by
  rw [show n - k = 0 by omega]; rfl
theorem srch_ended {first : Bool} {fit : List Int → Bool} {ms : List Int} {most : Int} {f : Nat} {ch : List Int} {mass : Int} {k0 : Nat} {s : S} (h : ended first s = true) : srch first fit ms most f ch mass k0 s = s := by
  cases f with
  | zero => rfl
  | succ f => simp only [srch, h, if_true]
theorem srch_spent {first : Bool} {fit : List Int → Bool} {ms : List Int} {most : Int} {f : Nat} {ch : List Int} {mass : Int} {k0 : Nat} {s : S} (h : ended first s = false) (h0 : s.left = 0) :
    srch first fit ms most (f + 1) ch mass k0 s = { s with spent := true } := by simp [srch, h, h0]
theorem srch_goes {first : Bool} {fit : List Int → Bool} {ms : List Int} {most : Int} {f : Nat} {ch : List Int} {mass : Int} {k0 : Nat} {s : S} (h : ended first s = false) (h0 : s.left ≠ 0) :
    srch first fit ms most (f + 1) ch mass k0 s = rounds (step first fit ms most f ch mass) (ms.length - k0) k0 (look (fit ch) ch mass { s with left := s.left - 1 }) := by
  have e : (s.left == 0) = false := by simpa using h0
  rw [srch, h, e]; rfl
theorem step_ended {first : Bool} {fit : List Int → Bool} {ms : List Int} {most : Int} {f : Nat} {ch : List Int} {mass : Int} {k : Nat} {s : S} (h : ended first s = true) : step first fit ms most f ch mass k s = s := by
  unfold step; rw [srch_ended h, ite_self]
theorem step_yes {first : Bool} {fit : List Int → Bool} {ms : List Int} {most : Int} {f : Nat} {ch : List Int} {mass : Int} {k : Nat} {s : S} (h : mass + ms.getD k 0 ≤ most) :
    step first fit ms most f ch mass k s = srch first fit ms most f (ch ++ [(k : Int)]) (mass + ms.getD k 0) (k + 1) s := by unfold step; rw [if_pos h]
theorem step_no {first : Bool} {fit : List Int → Bool} {ms : List Int} {most : Int} {f : Nat} {ch : List Int} {mass : Int} {k : Nat} {s : S} (h : ¬ mass + ms.getD k 0 ≤ most) : step first fit ms most f ch mass k s = s := by unfold step; rw [if_neg h]
theorem rounds_ended {first : Bool} {fit : List Int → Bool} {ms : List Int} {most : Int} {f : Nat} {ch : List Int} {mass : Int} (m : Nat) : ∀ (k : Nat) {s : S}, ended first s = true → rounds (step first fit ms most f ch mass) m k s = s := by
  induction m with
  | zero => intro k s _; rfl
  | succ m ih => intro k s h; simp only [rounds]; rw [step_ended h]; exact ih _ h
/-- What a search never breaks: nodes are counted down from 20000, and no more charges fit than nodes were visited. -/
def Inv (s : S) : Prop := 0 ≤ s.left ∧ 0 ≤ s.count ∧ s.count + s.left ≤ 20000
theorem look_inv {fit : Bool} {ch : List Int} {mass : Int} {s : S} (h : Inv s) (h0 : s.left ≠ 0) : Inv (look fit ch mass { s with left := s.left - 1 }) := by
  obtain ⟨a, b, c⟩ := h
  unfold look
  split <;> refine ⟨?_, ?_, ?_⟩ <;> simp only <;> omega
theorem look_spent {fit : Bool} {ch : List Int} {mass : Int} {s : S} : (look fit ch mass s).spent = s.spent := by unfold look; split <;> rfl
theorem rounds_inv {stp : Nat → S → S} (h : ∀ k s, Inv s → Inv (stp k s)) (m : Nat) : ∀ (k : Nat) {s : S}, Inv s → Inv (rounds stp m k s) := by
  induction m with
  | zero => intro k s hs; exact hs
  | succ m ih => intro k s hs; exact ih _ (h _ _ hs)
theorem srch_inv {first : Bool} {fit : List Int → Bool} {ms : List Int} {most : Int} : ∀ (f : Nat) {ch : List Int} {mass : Int} {k0 : Nat} {s : S}, Inv s → Inv (srch first fit ms most f ch mass k0 s) := by
  intro f
  induction f with
  | zero => intro ch mass k0 s h; exact h
  | succ f ih =>
    intro ch mass k0 s h
    cases e : ended first s
    · by_cases h0 : s.left = 0
      · rw [srch_spent e h0]; exact h
      · rw [srch_goes e h0]
        refine rounds_inv (fun k s hs => ?_) _ _ (look_inv h h0)
        unfold step
        split
        · exact ih hs
        · exact hs
    · rw [srch_ended e]; exact h
end Go.Proofs.Ytjklhacffdhgaaa.Ch
