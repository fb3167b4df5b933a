/- The search for schedules, no program in sight: heats, what they leave free, the next heat; the state, a visit, what ends it. -/
import Derived.Test.YtklmbgefdopifaaPr2
namespace Go.Proofs.Ytklmbgefdopifaa

structure HeatR where
  pr : Int
  cr : Int
  st : Int
  en : Int
def encHeat (x : HeatR) : List Value := [.int .i64 x.pr, .int .i64 x.cr, .int .i64 x.st, .int .i64 x.en]
namespace Ht
/-- The time from which a crucible is free behind heats. -/
def freeOf (hs : List HeatR) (c base : Int) : Int := hs.foldl (fun a h => if h.cr = c then h.en else a) base
/-- Whether one of some heats has a pour. -/
def hasP (hs : List HeatR) (p : Int) : Bool := hs.any fun h => h.pr == p
/-- When the last one of some heats ends. -/
def lastE (hs : List HeatR) : Int := hs.foldl (fun a h => max a h.en) 0
theorem freeOf_snoc (hs : List HeatR) (h : HeatR) (c base : Int) : freeOf (hs ++ [h]) c base = if h.cr = c then h.en else freeOf hs c base := by
  unfold freeOf; rw [List.foldl_append]; rfl
theorem lastE_snoc (hs : List HeatR) (h : HeatR) : lastE (hs ++ [h]) = max (lastE hs) h.en := by
  unfold lastE; rw [List.foldl_append]; rfl
theorem hasP_snoc (hs : List HeatR) (h : HeatR) (p : Int) : hasP (hs ++ [h]) p = (hasP hs p || h.pr == p) := by
  unfold hasP; simp
theorem freeOf_take {hs : List HeatR} {k : Nat} (h : k < hs.length) (c base : Int) : freeOf (hs.take (k + 1)) c base = if hs[k].cr = c then hs[k].en else freeOf (hs.take k) c base := by
  rw [List.take_succ_eq_append_getElem h, freeOf_snoc]
theorem lastE_take {hs : List HeatR} {k : Nat} (h : k < hs.length) : lastE (hs.take (k + 1)) = max (lastE (hs.take k)) hs[k].en := by
  rw [List.take_succ_eq_append_getElem h, lastE_snoc]
theorem hasP_yes {hs : List HeatR} {p : Int} {k : Nat} (h : k < hs.length) (e : hs[k].pr = p) : hasP hs p = true := by
  unfold hasP; rw [List.any_eq_true]; exact ⟨hs[k], List.getElem_mem h, by simpa using e⟩
theorem hasP_not {hs : List HeatR} {p : Int} (h : ∀ k (hk : k < hs.length), hs[k].pr ≠ p) : hasP hs p = false := by
  cases e : hasP hs p
  · rfl
  · unfold hasP at e
    rw [List.any_eq_true] at e
    obtain ⟨x, hx, hp⟩ := e
    obtain ⟨k, hk, rfl⟩ := List.getElem_of_mem hx
    exact absurd (by simpa using hp) (h k hk)
/-- The start and the end of a heat, and a code. -/
def nxR (x : PourR) (y : CrucR) (free : Int) : Int × Int × Int :=
  if y.cap < x.mass then (0, 0, 5) else if x.due < max free (x.rdy - y.ht) + y.ht then (0, 0, 6) else (max free (x.rdy - y.ht), max free (x.rdy - y.ht) + y.ht, 0)
def pk (ps : List PourR) (p : Int) : PourR := ps.getD p.toNat ⟨⟨#[]⟩, 0, 0, 0⟩
def ck (cs : List CrucR) (c : Int) : CrucR := cs.getD c.toNat ⟨⟨#[]⟩, 0, 0, 0⟩
/-- The next heat of a pour in a crucible behind heats. -/
def nx (ps : List PourR) (cs : List CrucR) (p c : Int) (hs : List HeatR) : Int × Int × Int := nxR (pk ps p) (ck cs c) (freeOf hs c (ck cs c).fr)
/-- What a search knows: the nodes left, whether they were too few, how many schedules there are, the best of them. -/
structure S where
  left : Int
  spent : Bool
  count : Int
  best : List HeatR
def ended (first : Bool) (s : S) : Bool := s.spent || (first && decide (0 < s.count))
def better (hs : List HeatR) (s : S) : Bool := s.count == 0 || decide (lastE hs < lastE s.best)
def look (hs : List HeatR) (s : S) : S := ⟨s.left, s.spent, s.count + 1, if better hs s then hs else s.best⟩
def rounds (stp : Nat → S → S) : Nat → Nat → S → S
  | 0, _, s => s
  | m + 1, k, s => rounds stp m (k + 1) (stp k s)
def srch (first : Bool) (nx : Int → Int → List HeatR → Int × Int × Int) (n m : Nat) : Nat → List HeatR → S → S
  | 0, _, s => s
  | f + 1, hs, s =>
    if ended first s then s
    else if s.left == 0 then { s with spent := true }
    else if hs.length == n then look hs { s with left := s.left - 1 }
    else rounds (fun p s => rounds (fun c s => if hasP hs p then s else if (nx p c hs).2.2 = 0 then srch first nx n m f (hs ++ [⟨p, c, (nx p c hs).1, (nx p c hs).2.1⟩]) s else s) m 0 s) n 0 { s with left := s.left - 1 }
section
variable {first : Bool} {nx : Int → Int → List HeatR → Int × Int × Int} {n m f : Nat} {hs : List HeatR} {s : S} {stp : Nat → S → S} {k p c : Nat}
/-- One heat more. -/
def stepC (first : Bool) (nx : Int → Int → List HeatR → Int × Int × Int) (n m f : Nat) (hs : List HeatR) (p c : Nat) (s : S) : S :=
  if hasP hs p then s else if (nx p c hs).2.2 = 0 then srch first nx n m f (hs ++ [⟨p, c, (nx p c hs).1, (nx p c hs).2.1⟩]) s else s
/-- All crucibles for one pour. -/
def stepP (first : Bool) (nx : Int → Int → List HeatR → Int × Int × Int) (n m f : Nat) (hs : List HeatR) (p : Nat) (s : S) : S := rounds (stepC first nx n m f hs p) m 0 s
theorem rounds_more (h : k < n) : rounds stp (n - k) k s = rounds stp (n - (k + 1)) (k + 1) (stp k s) := by
  rw [show n - k = (n - (k + 1)) + 1 by omega]; rfl
theorem rounds_none (h : n ≤ k) : rounds stp (n - k) k s = s := by
  rw [show n - k = 0 by omega]; rfl
theorem rounds_id (j : Nat) : ∀ (k : Nat) {s : S}, (∀ k, stp k s = s) → rounds stp j k s = s := by
  induction j with
  | zero => intro k s _; rfl
  | succ j ih => intro k s h; simp only [rounds]; rw [h]; exact ih _ h
theorem srch_ended (h : ended first s = true) : srch first nx n m f hs s = s := by
  cases f with
  | zero => rfl
  | succ f => simp only [srch, h, if_true]
theorem srch_spent (h : ended first s = false) (h0 : s.left = 0) : srch first nx n m (f + 1) hs s = { s with spent := true } := by simp [srch, h, h0]
theorem srch_full (h : ended first s = false) (h0 : s.left ≠ 0) (hl : hs.length = n) : srch first nx n m (f + 1) hs s = look hs { s with left := s.left - 1 } := by
  have e : (s.left == 0) = false := by simpa using h0
  have e2 : (hs.length == n) = true := by simpa using hl
  rw [srch, h, e, e2]; rfl
theorem srch_goes (h : ended first s = false) (h0 : s.left ≠ 0) (hl : hs.length ≠ n) : srch first nx n m (f + 1) hs s = rounds (stepP first nx n m f hs) n 0 { s with left := s.left - 1 } := by
  have e : (s.left == 0) = false := by simpa using h0
  have e2 : (hs.length == n) = false := by simpa using hl
  rw [srch, h, e, e2]; rfl
theorem stepC_has (h : hasP hs p = true) : stepC first nx n m f hs p c s = s := by unfold stepC; rw [if_pos h]
theorem stepC_no (h : (nx p c hs).2.2 ≠ 0) : stepC first nx n m f hs p c s = s := by unfold stepC; rw [if_neg h, ite_self]
theorem stepC_yes (h : hasP hs p = false) {a b : Int} (h2 : nx p c hs = (a, b, 0)) : stepC first nx n m f hs p c s = srch first nx n m f (hs ++ [⟨p, c, a, b⟩]) s := by unfold stepC; rw [h, h2]; rfl
theorem stepC_ended (h : ended first s = true) : stepC first nx n m f hs p c s = s := by unfold stepC; rw [srch_ended h, ite_self, ite_self]
theorem stepP_has (h : hasP hs p = true) : stepP first nx n m f hs p s = s := rounds_id _ _ fun _ => stepC_has h
theorem roundsC_ended (h : ended first s = true) (j k : Nat) : rounds (stepC first nx n m f hs p) j k s = s := rounds_id _ _ fun _ => stepC_ended h
theorem stepP_ended (h : ended first s = true) : stepP first nx n m f hs p s = s := roundsC_ended h _ _
theorem roundsP_ended (h : ended first s = true) (j k : Nat) : rounds (stepP first nx n m f hs) j k s = s := rounds_id _ _ fun _ => stepP_ended h
/-- What a search never breaks. -/
def Inv (s : S) : Prop := 0 ≤ s.left ∧ 0 ≤ s.count ∧ s.count + s.left ≤ 20000 ∧ s.best.length ≤ 12
theorem look_inv (h : Inv s) (h0 : s.left ≠ 0) (hl : hs.length ≤ 12) : Inv (look hs { s with left := s.left - 1 }) := by
  obtain ⟨a, b, c, d⟩ := h
  unfold look
  refine ⟨?_, ?_, ?_, ?_⟩ <;> simp only
  · omega
  · omega
  · omega
  · split
    · exact hl
    · exact d
theorem rounds_inv (h : ∀ k s, Inv s → Inv (stp k s)) (j : Nat) : ∀ (k : Nat) {s : S}, Inv s → Inv (rounds stp j k s) := by
  induction j with
  | zero => intro k s hs; exact hs
  | succ j ih => intro k s hs; exact ih _ (h _ _ hs)
theorem srch_inv (hn : n ≤ 12) : ∀ (f : Nat) {hs : List HeatR} {s : S}, Inv s → Inv (srch first nx n m f hs s) := by
  intro f
  induction f with
  | zero => intro hs s h; exact h
  | succ f ih =>
    intro hs s h
    cases e : ended first s
    · by_cases h0 : s.left = 0
      · rw [srch_spent e h0]; exact h
      · by_cases hl : hs.length = n
        · rw [srch_full e h0 hl]; exact look_inv h h0 (by omega)
        · rw [srch_goes e h0 hl]
          refine rounds_inv (fun p s hs => ?_) _ _ ⟨by have := h.1; simp only; omega, h.2.1, by have := h.2.2.1; simp only; omega, h.2.2.2⟩
          refine rounds_inv (fun c s hs => ?_) _ _ hs
          unfold stepC
          split
          · exact hs
          · split
            · exact ih hs
            · exact hs
    · rw [srch_ended e]; exact h
end
/-- Heats that a search may hold. -/
def GoodH (ps : List PourR) (cs : List CrucR) (hs : List HeatR) : Prop := ∀ h ∈ hs, (0 ≤ h.pr ∧ h.pr < ps.length) ∧ (0 ≤ h.cr ∧ h.cr < cs.length) ∧ (ck cs h.cr).fr ≤ h.en ∧ h.en ≤ 10000
theorem free_bd {ps : List PourR} {cs : List CrucR} {c : Nat} : ∀ {hs : List HeatR}, GoodH ps cs hs → ∀ {b : Int}, (ck cs c).fr ≤ b → b ≤ 10000 → (ck cs c).fr ≤ freeOf hs c b ∧ freeOf hs c b ≤ 10000 := by
  intro hs
  induction hs with
  | nil => intro _ b h0 h1; exact ⟨h0, h1⟩
  | cons h hs ih =>
    intro hg b h0 h1
    have g := hg h (by simp)
    have hg' : GoodH ps cs hs := fun x hx => hg x (by simp [hx])
    show _ ≤ freeOf hs c (if h.cr = c then h.en else b) ∧ freeOf hs c (if h.cr = c then h.en else b) ≤ 10000
    split
    · rename_i e
      rw [e] at g
      exact ih hg' g.2.2.1 g.2.2.2
    · exact ih hg' h0 h1
theorem nxR_ok {x : PourR} {y : CrucR} {free a b : Int} (h : nxR x y free = (a, b, 0)) : free ≤ a ∧ b = a + y.ht ∧ b ≤ x.due ∧ x.mass ≤ y.cap ∧ a = max free (x.rdy - y.ht) := by
  unfold nxR at h
  split at h
  · simp at h
  · split at h
    · simp at h
    · simp only [Prod.mk.injEq] at h
      obtain ⟨h1, h2, -⟩ := h
      omega
theorem GoodH.snoc {ps : List PourR} {cs : List CrucR} {hs : List HeatR} {p c : Nat} {a b : Int} (h : GoodH ps cs hs) (hp : p < ps.length) (hc : c < cs.length) (h1 : (ck cs c).fr ≤ b) (h2 : b ≤ 10000) : GoodH ps cs (hs ++ [⟨p, c, a, b⟩]) := by
  intro x hx
  rcases List.mem_append.1 hx with hx | hx
  · exact h x hx
  · simp only [List.mem_singleton] at hx
    subst hx
    exact ⟨⟨by simp, by simpa using hp⟩, ⟨by simp, by simpa using hc⟩, h1, h2⟩
/-- What is free, and which pours are done. -/
def frees (cs : List CrucR) (hs : List HeatR) : List Int := (List.range cs.length).map fun c : Nat => freeOf hs c (ck cs c).fr
def dones (n : Nat) (hs : List HeatR) : List Bool := (List.range n).map fun p : Nat => hasP hs p
theorem frees_len {cs : List CrucR} {hs : List HeatR} : (frees cs hs).length = cs.length := by simp [frees]
theorem dones_len {n : Nat} {hs : List HeatR} : (dones n hs).length = n := by simp [dones]
theorem frees_get {cs : List CrucR} {hs : List HeatR} {c : Nat} (h : c < (frees cs hs).length) : (frees cs hs)[c] = freeOf hs c (ck cs c).fr := by simp [frees]
theorem dones_get {n : Nat} {hs : List HeatR} {p : Nat} (h : p < (dones n hs).length) : (dones n hs)[p] = hasP hs p := by simp [dones]
theorem frees_push {cs : List CrucR} {hs : List HeatR} {p c : Nat} {a b : Int} : (frees cs hs).set c b = frees cs (hs ++ [⟨p, c, a, b⟩]) := by
  refine List.ext_getElem (by simp [frees]) fun i h1 h2 => ?_
  rw [List.getElem_set]
  split
  · rename_i e; subst e; rw [frees_get, freeOf_snoc]; simp
  · rename_i e
    rw [frees_get, frees_get, freeOf_snoc, if_neg (by simpa using fun q => e (by omega))]
theorem frees_pop {cs : List CrucR} {hs : List HeatR} {p c : Nat} {a b : Int} : (frees cs (hs ++ [⟨p, c, a, b⟩])).set c (freeOf hs c (ck cs c).fr) = frees cs hs := by
  rw [← frees_push, List.set_set]
  refine List.ext_getElem (by simp) fun i h1 h2 => ?_
  rw [List.getElem_set]
  split
  · rename_i e; subst e; rw [frees_get]
  · rfl
theorem dones_push {n : Nat} {hs : List HeatR} {p c : Nat} {a b : Int} : (dones n hs).set p true = dones n (hs ++ [⟨p, c, a, b⟩]) := by
  refine List.ext_getElem (by simp [dones]) fun i h1 h2 => ?_
  rw [List.getElem_set]
  split
  · rename_i e; subst e; rw [dones_get, hasP_snoc]; simp
  · rename_i e
    rw [dones_get, dones_get, hasP_snoc]
    have : ((p : Int) == i) = false := by simpa using fun q => e (by omega)
    simp [this]
theorem dones_pop {n : Nat} {hs : List HeatR} {p c : Nat} {a b : Int} (h : hasP hs p = false) : (dones n (hs ++ [⟨p, c, a, b⟩])).set p false = dones n hs := by
  rw [← dones_push, List.set_set]
  refine List.ext_getElem (by simp) fun i h1 h2 => ?_
  rw [List.getElem_set]
  split
  · rename_i e; subst e; rw [dones_get, h]
  · rfl
end Ht
end Go.Proofs.Ytklmbgefdopifaa
