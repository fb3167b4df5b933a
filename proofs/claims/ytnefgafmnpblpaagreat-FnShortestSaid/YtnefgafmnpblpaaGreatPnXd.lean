/- The planner's searches of both sides under one question; rows of numbers appended to, and kept. -/
import Derived.Test.YtnefgafmnpblpaaGreatPnI5
namespace Go.Proofs.YtnefgafmnpblpaaGreat
open Go.RowKit Pn

set_option maxRecDepth 100000 in
/-- An append of one number, and where the row then lies. -/
theorem wpList_appI_at {w : World} {ops : Array Oper} {rest : List Oper} {o : Oper} {a : Act} {Q : Exit → Act → World → Prop} (hgd : o.guard = none) (s x : Operand) (ho : o.op = .call { callee := .builtin .append, args := #[s, x], argTypes := #[24, 24] }) (B : Nat) {v : Value} {xs : List Int} (hs : a.eval s = v)
    (hown : OwnI w B v xs) {y : Int} {q : Nat} (hx : a.eval x = .slice (some ⟨q, 0, none⟩) 1 1) (hn : xs.length ≤ 1048576) (hB : B ≤ w.heap.size)
    (h : ∀ (A : Option Addr) (c : Nat) (w' : World), OwnI w' B (.slice A (xs.length + 1) c) (xs ++ [y]) → Below B w w' → w.grownBy w' v.ownBlock → ((Value.slice A (xs.length + 1) c).ownBlock = v.ownBlock ∨ ∃ g, (Value.slice A (xs.length + 1) c).ownBlock = some g ∧ w.heap.size ≤ g) → wpList Tryz.prog ops Q rest (a.put o.dst (.slice A (xs.length + 1) c)) w') (hq : q = w.heap.size := by first | rfl | simp) : wpList Tryz.prog ops Q (o :: rest) a (w.alloc (.cells #[.int .i64 y] 2)) := by
  subst hq
  obtain ⟨i0, hi, hz0, hz1, hz2⟩ := info_parts info_i64
  have hb0 : Below w.heap.size w (w.alloc (.cells #[.int .i64 y] 2)) := (Below.refl _ _).alloc (Nat.le_refl _) _
  refine wpList_append_own_at (w := w.alloc (.cells #[.int .i64 y] 2)) hgd s x 24 ho B 2 i0 _ 1 8 Tryz.underlying24 hi hz0 hz1 hz2 rfl (by omega) v xs.length (xs.flatMap encI) hs (hown.below hb0) ⟨w.heap.size, 0, none⟩ 1 1 [.int .i64 y] hx (by simp) ?_ (encI_one y) (by unfold maxLen; omega) (by omega) (by simp; omega) ?_
  · intro j u hj
    match j, hj with
    | 0, hj => injection hj with hj; subst hj; simp [Addr.add]
  · intro v' w' hown' hg _ hat
    obtain ⟨A, c, rfl⟩ := own_slice hown'
    have hbl : Below B (w.alloc (.cells #[.int .i64 y] 2)) w' := Below.grown (Below.refl _ _) hg (by simp; omega) fun k hk => (Own.lt hown k hk).1
    refine h A c w' ?_ ((hb0.mono hB).trans hbl) (grown_trans (grown_of_below hb0 _) hg) ?_
    · unfold OwnI Own
      rw [List.length_append, List.flatMap_append]
      simpa using hown'
    · rcases hat with e | e
      · exact .inl e
      · exact .inr ⟨_, e, by simp⟩
theorem own_farN {α : Type} {enc : α → List Value} {sz : Nat} {T : TypeId} {w w' : World} {q N : Nat} {v : Value} {xs : List α} (h : Own enc sz T w N v xs) (hq : q < N) (hg : w.grownBy w' (some q)) : Own enc sz T w' N v xs := by
  refine h.kept hg ?_
  cases e : v.ownBlock with
  | none => exact .inl rfl
  | some g => exact .inr fun k => by injection k with k; have := (h.lt g e).1; omega
/-- What a look at all steps does. -/
noncomputable def Cx.lookX (x : Cx) (clo : Bool) (l : List Int) (s : S) : S := if clo then lookC x.snd x.dev l s else lookP x.plan l s
section
variable {x : Cx} {l : List Int} {s : S}
theorem lookX_snd0 {clo : Bool} (h : dc (SoundOK (x.raw l)) = false) : x.lookX clo l s = s ∧ x.plan l = false := by
  have hs : x.snd l = false := h
  have hp : x.plan l = false := by rw [Cx.plan, hs]; rfl
  refine ⟨?_, hp⟩
  unfold Cx.lookX
  split
  · rw [lookC, if_neg (by rw [hs]; simp)]
  · rw [lookP, if_neg (by rw [hp]; simp)]
theorem lookX_yes (h : dc (SoundOK (x.raw l)) = true) (hb : s.least < 0 ∨ x.dev l < s.least) : x.lookX true l s = { s with least := x.dev l, found := l } := by
  have hs : x.snd l = true := h
  show lookC x.snd x.dev l s = _
  rw [lookC, if_pos (by rw [hs]), if_pos hb]
theorem lookX_no (h0 : ¬ s.least < 0) (h1 : ¬ x.dev l < s.least) : x.lookX true l s = s := by
  show lookC x.snd x.dev l s = _
  rw [lookC]
  split
  · rw [if_neg (by omega)]
  · rfl
theorem plan_yes (h : dc (SoundOK (x.raw l)) = true) (hd : x.dev l ≤ x.tol) : x.plan l = true := by
  have hs : x.snd l = true := h
  rw [Cx.plan, hs]; simpa using hd
theorem plan_no (hd : ¬ x.dev l ≤ x.tol) : x.plan l = false := by
  rw [Cx.plan]; simp; intro _; omega
theorem lookX_plan (h : x.plan l = true) : x.lookX false l s = { s with count := s.count + 1, found := if s.count == 0 then l else s.found } := by
  show lookP x.plan l s = _
  rw [lookP, if_pos h]
theorem lookX_noplan (h : x.plan l = false) : x.lookX false l s = s := by
  show lookP x.plan l s = _
  rw [lookP, if_neg (by rw [h]; simp)]
theorem dev_bd (x : Cx) {w0 : World} (h : x.OK w0) (l : List Int) (hs : dc (SoundOK (x.raw l)) = true) : 0 ≤ x.dev l ∧ x.dev l ≤ 4000000000000000000 := by
  have hb := devs_bd (SoundOK.inF h.goal.t) (SoundOK.inF (of_dc hs))
  have key : ∀ k, k ≤ (devs x.t (x.raw l)).length → 0 ≤ gr (devs x.t (x.raw l)) k ∧ gr (devs x.t (x.raw l)) k ≤ 4000000000000000000 := by
    intro k
    induction k with
    | zero => intro _; unfold gr; omega
    | succ k ih =>
      intro hk
      have a := ih (by omega)
      have b := hb k (by omega)
      rw [gr_max]
      unfold mx
      split <;> split <;> omega
  have e : x.dev l = gr (devs x.t (x.raw l)) (devs x.t (x.raw l)).length := by unfold Cx.dev grB; rfl
  rw [e]
  exact key _ (Nat.le_refl _)
end
/-- The question of the reference's search. -/
noncomputable def Cx.qx (x : Cx) (all clo : Bool) : Q := ⟨x.lim, -1, if clo then (fun _ => false) else x.low, x.lookX clo, !all && !clo⟩
section
variable {x : Cx} {all clo : Bool} {rec : List Int → S → S} {l : List Int} {m k : Nat} {s : S}
theorem tried_qx (l : List Int) : tried (x.qx all clo) l = true := by unfold tried Cx.qx; simp
theorem goK_zero (h0 : s.left = 0) (hf : (!all && !clo) = true → s.count = 0) : goK (x.qx all clo) rec l (m + 1) k s = { s with spent := true } := by
  cases hs : s.spent
  · refine goK_spent (tried_qx _) ?_ h0
    unfold ended
    rw [hs]
    show ((!all && !clo) && decide (0 < s.count)) = false
    cases hh : (!all && !clo)
    · rfl
    · rw [hf hh]; rfl
  · rw [goK_ended (by unfold ended; rw [hs]; rfl)]
    obtain ⟨a, b, c, d, e⟩ := s
    simp only at hs
    subst hs
    rfl
theorem ended_qx (hs : s.spent = false) (hf : (!all && !clo) = true → s.count = 0) : ended (x.qx all clo) s = false := by
  unfold ended
  rw [hs]
  show ((!all && !clo) && decide (0 < s.count)) = false
  cases hh : (!all && !clo)
  · rfl
  · rw [hf hh]; rfl
theorem ended_found (h : ((!all && !clo) && decide (0 < s.count)) = true) : ended (x.qx all clo) s = true := by
  unfold ended
  show (s.spent || ((!all && !clo) && decide (0 < s.count))) = true
  rw [h, Bool.or_true]
theorem found_no (hf : (!all && !clo) = true → s.count = 0) : ((!all && !clo) && decide (0 < s.count)) = false := by
  cases hh : (!all && !clo)
  · rfl
  · rw [hf hh]; rfl
theorem lookX_spent : (x.lookX clo l s).spent = s.spent ∧ (x.lookX clo l s).left = s.left := by
  cases clo
  · show (lookP x.plan l s).spent = _ ∧ (lookP x.plan l s).left = _
    unfold lookP
    split <;> exact ⟨rfl, rfl⟩
  · show (lookC x.snd x.dev l s).spent = _ ∧ (lookC x.snd x.dev l s).left = _
    unfold lookC
    split
    · split <;> exact ⟨rfl, rfl⟩
    · exact ⟨rfl, rfl⟩
end
end Go.Proofs.YtnefgafmnpblpaaGreat
