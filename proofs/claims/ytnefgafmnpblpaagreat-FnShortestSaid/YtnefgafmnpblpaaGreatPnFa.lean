/- The planner's search for plans, no program in sight: the first plan and the number of plans, in lockstep; what is found. The planner's plain side: partials fall with steps; a plan is neither too low before nor too high at the limits. The planner's search for plans, no program in sight: a search that is not spent and finds nothing leaves no plan out. The planner's plain side: what the search leaves out, and what it finds. The planner's search for the least deviation, no program in sight: it finds the least, and leaves none out. The planner's plain side: what blocks a plan. The planner's plain side: cuts, what searches say of plans, the search for the least sum. -/
import Derived.Test.YtnefgafmnpblpaaGreatPnSa
import Derived.Test.YtnefgafmnpblpaaGreatPnI8
namespace Go.Proofs.YtnefgafmnpblpaaGreat.Pn
open Go.Proofs.YtnefgafmnpblpaaGreat

theorem goK_ind {q : Q} {rec : List Int → S → S} {R : S → S → Prop} {l : List Int} (hr : ∀ s, R s s) (ht : ∀ a b c, R a b → R b c → R a c) (hs : ∀ s, R s { s with spent := true }) (hn : ∀ s, R s { s with left := s.left - 1 }) (hrec : ∀ k : Nat, (k : Int) ≤ ig q.lim l.length → tried q (l ++ [(k : Int)]) = true → ∀ s, R s (rec (l ++ [(k : Int)]) s)) (hlim : 0 ≤ ig q.lim l.length) : ∀ (m k : Nat) (s : S), k + m ≤ (ig q.lim l.length).toNat + 1 → R s (goK q rec l m k s) := by
  intro m
  induction m with
  | zero => intro k s _; exact hr s
  | succ m ihm =>
    intro k s hk
    cases htr : tried q (l ++ [(k : Int)])
    · rw [goK_not htr]; exact ihm (k + 1) s (by omega)
    · cases he : ended q s
      · by_cases h0 : s.left = 0
        · rw [goK_spent htr he h0]; exact hs s
        · cases hlow : q.low (l ++ [(k : Int)])
          · rw [goK_go htr he h0 hlow]
            exact ht _ _ _ (ht _ _ _ (hn s) (hrec k (by omega) htr _)) (ihm (k + 1) _ (by omega))
          · rw [goK_low htr he h0 hlow]; exact hn s
      · rw [goK_ended he]; exact hr s
theorem srch_ind {q : Q} {R : S → S → Prop} (hr : ∀ s, R s s) (ht : ∀ a b c, R a b → R b c → R a c) (hs : ∀ s, R s { s with spent := true }) (hn : ∀ s, R s { s with left := s.left - 1 }) (hlim : ∀ k, 0 ≤ ig q.lim k) (hl : ∀ l s, Pre q.lim l → l.length = q.lim.length → R s (q.look l s)) : ∀ (f : Nat) (l : List Int) (s : S), Pre q.lim l → R s (srch q f l s) := by
  intro f
  induction f with
  | zero => intro l s _; exact hr s
  | succ f ih =>
    intro l s hp
    by_cases hfl : l.length = q.lim.length
    · rw [srch_full hfl]; exact hl l s hp hfl
    · rw [srch_goes hfl]
      exact goK_ind hr ht hs hn (fun k hk _ s => ih _ s (hp.snoc (by have := hp.len; omega) (by omega) hk)) (hlim _) _ 0 s (by omega)
/-- The number of plans never falls. -/
theorem srch_count {q : Q} {plan : List Int → Bool} (hq : q.look = lookP plan) (hlim : ∀ k, 0 ≤ ig q.lim k) (f : Nat) (l : List Int) (s : S) (hp : Pre q.lim l) : s.count ≤ (srch q f l s).count :=
  srch_ind (R := fun a b => a.count ≤ b.count) (fun _ => Int.le_refl _) (fun _ _ _ h1 h2 => Int.le_trans h1 h2) (fun _ => Int.le_refl _) (fun _ => Int.le_refl _) hlim (fun l s _ _ => by
    rw [hq]; unfold lookP
    split
    · simp only; omega
    · exact Int.le_refl _) f l s hp
/-- What is found is a plan. -/
def Fnd (lim : List Int) (plan : List Int → Bool) (s : S) : Prop := 0 ≤ s.count ∧ (0 < s.count → Pre lim s.found ∧ s.found.length = lim.length ∧ plan s.found = true)
theorem srch_found {q : Q} {plan : List Int → Bool} (hq : q.look = lookP plan) (hlim : ∀ k, 0 ≤ ig q.lim k) (f : Nat) (l : List Int) (s : S) (hp : Pre q.lim l) (h : Fnd q.lim plan s) : Fnd q.lim plan (srch q f l s) :=
  srch_ind (R := fun a b => Fnd q.lim plan a → Fnd q.lim plan b) (fun _ h => h) (fun _ _ _ h1 h2 h => h2 (h1 h)) (fun _ h => h) (fun _ h => h) hlim (fun l s hp hl h => by
    rw [hq]; unfold lookP
    split
    · rename_i hpl
      refine ⟨by have := h.1; simp only; omega, fun _ => ?_⟩
      simp only
      split
      · exact ⟨hp, hl, hpl⟩
      · rename_i hc
        have : s.count ≠ 0 := by simpa using hc
        exact h.2 (by have := h.1; omega)
    · exact h) f l s hp h
/-- A search that ends at the first plan, beside one that goes on. -/
def Lk (a b : S) : Prop := (a = b ∧ a.count = 0) ∨ (0 < a.count ∧ a.spent = false ∧ 0 < b.count)
theorem srch_lock {lim : List Int} {sum : Int} {low : List Int → Bool} {plan : List Int → Bool} (hlim : ∀ k, 0 ≤ ig lim k) : ∀ (f : Nat) (l : List Int) (s : S), Pre lim l → s.count = 0 → s.spent = false → Lk (srch ⟨lim, sum, low, lookP plan, true⟩ f l s) (srch ⟨lim, sum, low, lookP plan, false⟩ f l s) := by
  intro f
  induction f with
  | zero => intro l s _ hc _; exact .inl ⟨rfl, hc⟩
  | succ f ih =>
    intro l s hp hc hsp
    by_cases hfl : l.length = lim.length
    · rw [srch_full (q := ⟨lim, sum, low, lookP plan, true⟩) hfl, srch_full (q := ⟨lim, sum, low, lookP plan, false⟩) hfl]
      unfold lookP
      simp only
      split
      · exact .inr ⟨by simp only; omega, hsp, by simp only; omega⟩
      · exact .inl ⟨rfl, hc⟩
    · rw [srch_goes (q := ⟨lim, sum, low, lookP plan, true⟩) hfl, srch_goes (q := ⟨lim, sum, low, lookP plan, false⟩) hfl]
      have key : ∀ (m k : Nat) (s : S), k + m ≤ (ig lim l.length).toNat + 1 → s.count = 0 → Lk (goK ⟨lim, sum, low, lookP plan, true⟩ (srch ⟨lim, sum, low, lookP plan, true⟩ f) l m k s) (goK ⟨lim, sum, low, lookP plan, false⟩ (srch ⟨lim, sum, low, lookP plan, false⟩ f) l m k s) := by
        intro m
        induction m with
        | zero => intro k s _ hc; exact .inl ⟨rfl, hc⟩
        | succ m ihm =>
          intro k s hk hc
          cases ht : tried ⟨lim, sum, low, lookP plan, true⟩ (l ++ [(k : Int)])
          · rw [goK_not ht, goK_not (q := ⟨lim, sum, low, lookP plan, false⟩) ht]
            exact ihm (k + 1) s (by omega) hc
          · have ht2 : tried ⟨lim, sum, low, lookP plan, false⟩ (l ++ [(k : Int)]) = true := ht
            cases hs : s.spent
            · have he1 : ended ⟨lim, sum, low, lookP plan, true⟩ s = false := by unfold ended; simp [hs, hc]
              have he2 : ended ⟨lim, sum, low, lookP plan, false⟩ s = false := by unfold ended; simp [hs]
              by_cases h0 : s.left = 0
              · rw [goK_spent ht he1 h0, goK_spent ht2 he2 h0]; exact .inl ⟨rfl, hc⟩
              · cases hlow : low (l ++ [(k : Int)])
                · rw [goK_go ht he1 h0 hlow, goK_go ht2 he2 h0 hlow]
                  have hp2 : Pre lim (l ++ [(k : Int)]) := hp.snoc (by have := hp.len; omega) (by omega) (by have := hlim l.length; omega)
                  rcases ih (l ++ [(k : Int)]) { s with left := s.left - 1 } hp2 hc hs with ⟨e, e2⟩ | ⟨e1, e2, e3⟩
                  · rw [← e]
                    exact ihm (k + 1) _ (by omega) e2
                  · rw [goK_ended (by unfold ended; simp [e1])]
                    refine .inr ⟨e1, e2, Int.lt_of_lt_of_le e3 ?_⟩
                    exact goK_ind (q := ⟨lim, sum, low, lookP plan, false⟩) (R := fun a b => a.count ≤ b.count) (fun _ => Int.le_refl _) (fun _ _ _ h1 h2 => Int.le_trans h1 h2) (fun _ => Int.le_refl _) (fun _ => Int.le_refl _) (fun k' hk' _ s => srch_count (q := ⟨lim, sum, low, lookP plan, false⟩) rfl hlim f _ s (hp.snoc (by have := hp.len; omega) (by omega) hk')) (hlim _) m (k + 1) _ (by show k + 1 + m ≤ (ig lim l.length).toNat + 1; omega)
                · rw [goK_low ht he1 h0 hlow, goK_low ht2 he2 h0 hlow]; exact .inl ⟨rfl, hc⟩
            · rw [goK_ended (by unfold ended; simp [hs]), goK_ended (by unfold ended; simp [hs])]
              exact .inl ⟨rfl, hc⟩
      exact key _ 0 s (by show 0 + ((ig lim l.length).toNat + 1) ≤ (ig lim l.length).toNat + 1; omega) hc
end Go.Proofs.YtnefgafmnpblpaaGreat.Pn
namespace Go.Proofs.YtnefgafmnpblpaaGreat
open Pn

theorem wallZ_mono {zs st st' : List Int} {rs : List RingR} (hz : ZonesOK zs rs.length) (hw : WallOK (turn zs st' rs)) (h : StLe st st') {z : Nat} (hzl : z < zs.length) : wallZ zs (turn zs st' rs) z ≤ wallZ zs (turn zs st rs) z := by
  have e := hz.endZ_lt hzl
  have n0 := hz.nonneg hzl
  unfold wallZ
  rw [turn_length, turn_length]
  refine nr_mono (wsum_bd hw _ _ (by rw [turn_length]; omega)).1 (by omega) (wsum_turn h _ _ (by omega))
theorem mom_mono {ws wl wl' : List Int} (h0 : ∀ z, 0 ≤ ig ws z) : ∀ n : Nat, (∀ z, z < n → ig wl' z ≤ ig wl z) → mom ws wl' n ≤ mom ws wl n
  | 0, _ => Int.le_refl _
  | n + 1, h => by
    have a := mom_mono h0 n fun z hz => h z (by omega)
    have b := Int.mul_le_mul_of_nonneg_left (h n (by omega)) (h0 n)
    unfold mom
    omega
theorem area_turn {zs st : List Int} {rs : List RingR} (h0 : 0 < rs.length) : area (turn zs st rs) = area rs := by
  unfold area lipR
  rw [rg_turn zs st rs 0 h0]
  rfl
theorem raw_mono {zs st st' : List Int} {ws : List (List Int)} {bs : List Int} {rs : List RingR} (hm : ModelOK zs ws bs) (hz : ZonesOK zs rs.length) (h0 : 0 < rs.length) (hw : WallOK (turn zs st' rs)) (h : StLe st st') {k : Nat} (hk : k < 5) : ig (rawT zs ws bs rs st') k ≤ ig (rawT zs ws bs rs st) k := by
  have hz' : ZonesOK zs ((turn zs st' rs).length) := by rw [turn_length]; exact hz
  have hmom : mom (ws.getD k []) (walls zs (turn zs st' rs)) zs.length ≤ mom (ws.getD k []) (walls zs (turn zs st rs)) zs.length := mom_mono (fun z => (ModelW hm hk z).1) _ fun z hzl => by
    rw [walls_get _ _ _ hzl, walls_get _ _ _ hzl]
    exact wallZ_mono hz hw h hzl
  have hm0 := (mom_bd (ModelW hm hk) (walls_bd hz' hw) zs.length).1
  have hb := hm.b k hk
  have ha := area_bd hw (by rw [turn_length]; exact h0)
  unfold rawT
  rw [rawP_get _ _ _ _ k hk, rawP_get _ _ _ _ k hk]
  unfold rawK
  rw [area_turn h0] at ha
  rw [area_turn h0, area_turn h0]
  exact nr_mono (Int.mul_nonneg (by omega) hm0) ha.1 (Int.mul_le_mul_of_nonneg_left hmom (by omega))
theorem ctB_mono {t f f' : Int} (h0 : 0 < f') (h : f' ≤ f) : ctB t f' ≤ ctB t f := by
  unfold ctB
  have := lgT_mono h0 h
  omega
theorem lowK_mono {t : List Int} {tol : Int} {k : Nat} {f f' : Int} (h : f' ≤ f) (hl : lowK t tol k f = true) : lowK t tol k f' = true := by
  unfold lowK at hl ⊢
  simp only [Bool.or_eq_true, Bool.and_eq_true, decide_eq_true_eq] at hl ⊢
  by_cases h1 : f' < 10000
  · exact .inl h1
  · have := ctB_mono (t := ig t k) (by omega) h
    rcases hl with hl | ⟨a, b⟩
    · exact .inl (by omega)
    · exact .inr ⟨by omega, by omega⟩
theorem highK_mono {t : List Int} {tol : Int} {k : Nat} {f f' : Int} (h : f' ≤ f) (hl : highK t tol k f' = true) : highK t tol k f = true := by
  unfold highK at hl ⊢
  simp only [Bool.or_eq_true, Bool.and_eq_true, decide_eq_true_eq] at hl ⊢
  rcases hl with hl | ⟨a, b⟩
  · exact .inl (by omega)
  · have := ctB_mono (t := ig t k) (by omega) h
    exact .inr ⟨by omega, by omega⟩
/-- A plan's partials are neither too low nor too high. -/
theorem Cx.plan_in {x : Cx} {l : List Int} (h : x.plan l = true) {k : Nat} (hk : k < 5) : lowK x.t x.tol k (ig (x.raw l) k) = false ∧ highK x.t x.tol k (ig (x.raw l) k) = false := by
  unfold Cx.plan Cx.snd Cx.dev at h
  simp only [Bool.and_eq_true, decide_eq_true_eq] at h
  have hs : SoundOK (x.raw l) := of_dc h.1
  have hb := hs.at_ k hk
  have hg := gr_ge (devs x.t (x.raw l)) 5 k hk
  rw [devs_get _ _ k hk] at hg
  have h2 := h.2
  unfold grB at h2
  rw [devs_length] at h2
  have h3 : -x.tol ≤ ctB (ig x.t k) (ig (x.raw l) k) ∧ ctB (ig x.t k) (ig (x.raw l) k) ≤ x.tol := by
    unfold absI at hg
    split at hg <;> omega
  unfold lowK highK
  simp only [Bool.or_eq_false_iff, Bool.and_eq_false_iff, decide_eq_false_iff_not]
  omega
/-- Too low before any step, or too high at the limits: no plan. -/
theorem Cx.no_plan {x : Cx} (ha : AskOK x.zs x.ws x.bs x.nm x.rs) (hg : 0 ≤ x.most) {l : List Int} (hp : Pre x.lim l) (hpl : x.plan l = true) {k : Nat} (hk : k < 5) : lowK x.t x.tol k (ig (x.raw []) k) = false ∧ highK x.t x.tol k (ig (x.raw x.lim) k) = false := by
  have hin := Cx.plan_in hpl hk
  have hlim := Pn.lim_bd x.zs x.rs hg
  have h0 : StLe [] l := fun z => by
    have := (Pre.all hp (c := 20) hlim z).1
    simpa [ig] using this
  have h1 : StLe l x.lim := fun z => by
    by_cases hz : z < l.length
    · exact (hp.at_ z hz).2
    · have e : ig l z = 0 := by unfold ig; rw [List.getD_eq_getElem?_getD, List.getElem?_eq_none (by omega)]; rfl
      rw [e]; exact (hlim z).1
  have hpl2 : Pre x.lim x.lim := ⟨Nat.le_refl _, fun k _ => ⟨(hlim k).1, Int.le_refl _⟩⟩
  have w1 := (turn_ok ha.r ha.z.len1 (Pre.fit hp)).walls
  have w2 := (turn_ok ha.r ha.z.len1 (Pre.fit hpl2)).walls
  have m1 := raw_mono (st := []) (st' := l) ha.m ha.z ha.r.len1 w1 h0 hk
  have m2 := raw_mono (st := l) (st' := x.lim) ha.m ha.z ha.r.len1 w2 h1 hk
  constructor
  · cases hh : lowK x.t x.tol k (ig (x.raw []) k)
    · rfl
    · have := lowK_mono m1 hh
      have q := hin.1
      unfold Cx.raw at q
      rw [q] at this
      cases this
  · cases hh : highK x.t x.tol k (ig (x.raw x.lim) k)
    · rfl
    · have := highK_mono m2 hh
      have q := hin.2
      unfold Cx.raw at q
      rw [q] at this
      cases this
end Go.Proofs.YtnefgafmnpblpaaGreat
namespace Go.Proofs.YtnefgafmnpblpaaGreat.Pn
open Go.Proofs.YtnefgafmnpblpaaGreat

theorem Pre.head {lim l r : List Int} (h : Pre lim (l ++ r)) : Pre lim l := ⟨by have := h.len; simp at this; omega, fun k hk => by
  have := h.at_ k (by simp; omega)
  have e : ig (l ++ r) k = ig l k := by unfold ig; rw [List.getD_eq_getElem?_getD, List.getD_eq_getElem?_getD, List.getElem?_append_left hk]
  rw [e] at this
  exact this⟩
theorem sumA_app {lim : List Int} : ∀ (r l : List Int), Pre lim (l ++ r) → sumA l ≤ sumA (l ++ r)
  | [], l, _ => by simp
  | a :: r, l, h => by
    have e : l ++ a :: r = (l ++ [a]) ++ r := by simp
    rw [e] at h ⊢
    have ih := sumA_app r (l ++ [a]) h
    have ha := (h.head).at_ l.length (by simp)
    rw [ig_snoc] at ha
    rw [sumA_snoc] at ih
    omega
/-- Whether a list of steps has the sum that is wanted. -/
def SumOK (q : Q) (l : List Int) : Prop := q.sum < 0 ∨ sumA l = q.sum
theorem tried_no {q : Q} {l r : List Int} (h : tried q l = false) (hp : Pre q.lim (l ++ r)) (hl : (l ++ r).length = q.lim.length) : ¬ SumOK q (l ++ r) := by
  unfold tried at h
  simp only [Bool.or_eq_false_iff, Bool.and_eq_false_iff, decide_eq_false_iff_not] at h
  obtain ⟨h1, h2⟩ := h
  have hs := sumA_app r l hp
  rintro (h3 | h3)
  · exact h1 h3
  · rcases h2 with h2 | ⟨h2, h4⟩
    · omega
    · have hr : r = [] := by
        have : (l ++ r).length = l.length + r.length := by simp
        exact List.length_eq_zero_iff.1 (by omega)
      subst hr
      simp at h3
      exact h4 h3
theorem srch_spent {q : Q} {plan : List Int → Bool} (hq : q.look = lookP plan) (hlim : ∀ k, 0 ≤ ig q.lim k) (f : Nat) (l : List Int) (s : S) (hp : Pre q.lim l) : s.spent = true → (srch q f l s).spent = true :=
  srch_ind (R := fun a b => a.spent = true → b.spent = true) (fun _ h => h) (fun _ _ _ h1 h2 h => h2 (h1 h)) (fun _ _ => rfl) (fun _ h => h) hlim (fun l s _ _ h => by
    rw [hq]; unfold lookP
    split
    · exact h
    · exact h) f l s hp
/-- Steps that are too low rule out all that follow. -/
def LowOK (q : Q) (plan : List Int → Bool) : Prop := ∀ (l : List Int) (k k' : Nat) (r : List Int), q.low (l ++ [(k : Int)]) = true → k ≤ k' → Pre q.lim (l ++ [(k' : Int)] ++ r) → (l ++ [(k' : Int)] ++ r).length = q.lim.length → plan (l ++ [(k' : Int)] ++ r) = false
theorem srch_none {q : Q} {plan : List Int → Bool} (hq : q.look = lookP plan) (hlow : LowOK q plan) (hlim : ∀ k, 0 ≤ ig q.lim k) : ∀ (f : Nat) (l : List Int) (s : S), q.lim.length < l.length + f → Pre q.lim l → s.count = 0 → s.spent = false → (srch q f l s).count = 0 → (srch q f l s).spent = false → ∀ r, Pre q.lim (l ++ r) → (l ++ r).length = q.lim.length → SumOK q (l ++ r) → plan (l ++ r) = false := by
  intro f
  induction f with
  | zero => intro l s hf hp _ _ _ _; have := hp.len; omega
  | succ f ih =>
    intro l s hf hp hc hsp hc2 hs2 r hpr hlr hsum
    by_cases hfl : l.length = q.lim.length
    · have hr : r = [] := by
        have : (l ++ r).length = l.length + r.length := by simp
        exact List.length_eq_zero_iff.1 (by omega)
      subst hr
      rw [srch_full hfl, hq] at hc2
      unfold lookP at hc2
      cases hpl : plan l
      · simpa using hpl
      · rw [hpl] at hc2
        simp only [if_true] at hc2
        omega
    · rw [srch_goes hfl] at hc2 hs2
      have key : ∀ (m k : Nat) (s : S), k + m = (ig q.lim l.length).toNat + 1 → s.count = 0 → s.spent = false → (goK q (srch q f) l m k s).count = 0 → (goK q (srch q f) l m k s).spent = false → ∀ (k' : Nat) (r : List Int), k ≤ k' → Pre q.lim (l ++ [(k' : Int)] ++ r) → (l ++ [(k' : Int)] ++ r).length = q.lim.length → SumOK q (l ++ [(k' : Int)] ++ r) → plan (l ++ [(k' : Int)] ++ r) = false := by
        intro m
        induction m with
        | zero =>
          intro k s hk _ _ _ _ k' r hkk hpr _ _
          have := (hpr.head).at_ l.length (by simp)
          rw [ig_snoc] at this
          omega
        | succ m ihm =>
          intro k s hk hc hsp hc2 hs2 k' r hkk hpr hlr hsum
          cases ht : tried q (l ++ [(k : Int)])
          · rw [goK_not ht] at hc2 hs2
            by_cases e : k' = k
            · subst e
              exact absurd hsum (tried_no ht hpr hlr)
            · exact ihm (k + 1) s (by omega) hc hsp hc2 hs2 k' r (by omega) hpr hlr hsum
          · have he : ended q s = false := by unfold ended; simp [hsp, hc]
            by_cases h0 : s.left = 0
            · rw [goK_spent ht he h0] at hs2
              cases hs2
            · cases hl : q.low (l ++ [(k : Int)])
              · rw [goK_go ht he h0 hl] at hc2 hs2
                by_cases hkl : (k : Int) ≤ ig q.lim l.length
                · have hp2 : Pre q.lim (l ++ [(k : Int)]) := hp.snoc (by have := hp.len; omega) (by omega) hkl
                  have mc := goK_ind (q := q) (rec := srch q f) (l := l) (R := fun a b => a.count ≤ b.count) (fun _ => Int.le_refl _) (fun _ _ _ h1 h2 => Int.le_trans h1 h2) (fun _ => Int.le_refl _) (fun _ => Int.le_refl _) (fun k' hk' _ s => srch_count hq hlim f _ s (hp.snoc (by have := hp.len; omega) (by omega) hk')) (hlim _) m (k + 1) (srch q f (l ++ [(k : Int)]) { s with left := s.left - 1 }) (by omega)
                  have ms := goK_ind (q := q) (rec := srch q f) (l := l) (R := fun a b => a.spent = true → b.spent = true) (fun _ h => h) (fun _ _ _ h1 h2 h => h2 (h1 h)) (fun _ _ => rfl) (fun _ h => h) (fun k' hk' _ s => srch_spent hq hlim f _ s (hp.snoc (by have := hp.len; omega) (by omega) hk')) (hlim _) m (k + 1) (srch q f (l ++ [(k : Int)]) { s with left := s.left - 1 }) (by omega)
                  have m0 := srch_count hq hlim f (l ++ [(k : Int)]) { s with left := s.left - 1 } hp2
                  have c1 : (srch q f (l ++ [(k : Int)]) { s with left := s.left - 1 }).count = 0 := by
                    simp only at mc m0
                    omega
                  have s1 : (srch q f (l ++ [(k : Int)]) { s with left := s.left - 1 }).spent = false := by
                    cases hh : (srch q f (l ++ [(k : Int)]) { s with left := s.left - 1 }).spent
                    · rfl
                    · rw [ms hh] at hs2; cases hs2
                  by_cases e : k' = k
                  · subst e
                    exact ih (l ++ [(k' : Int)]) { s with left := s.left - 1 } (by simp; omega) hp2 hc hsp c1 s1 r hpr hlr hsum
                  · exact ihm (k + 1) _ (by omega) c1 s1 hc2 hs2 k' r (by omega) hpr hlr hsum
                · have := (hpr.head).at_ l.length (by simp)
                  rw [ig_snoc] at this
                  omega
              · exact hlow l k k' r hl hkk hpr hlr
      have hlt : 0 < r.length := by
        have : (l ++ r).length = l.length + r.length := by simp
        have := hp.len
        omega
      match r, hlt with
      | a :: r, _ =>
        have e : l ++ a :: r = l ++ [a] ++ r := by simp
        rw [e] at hpr hlr hsum ⊢
        have ha := (hpr.head).at_ l.length (by simp)
        rw [ig_snoc] at ha
        obtain ⟨k', rfl⟩ : ∃ k' : Nat, a = k' := ⟨a.toNat, (Int.toNat_of_nonneg ha.1).symm⟩
        exact key _ 0 s (by omega) hc hsp hc2 hs2 k' r (by omega) hpr hlr hsum
end Go.Proofs.YtnefgafmnpblpaaGreat.Pn
namespace Go.Proofs.YtnefgafmnpblpaaGreat
open Pn

theorem Cx.lowOK {x : Cx} (ha : AskOK x.zs x.ws x.bs x.nm x.rs) (hg : 0 ≤ x.most) (sum : Int) (first : Bool) : LowOK (x.q sum first) x.plan := by
  intro l k k' r hl hkk hp hlen
  cases hpl : x.plan (l ++ [(k' : Int)] ++ r)
  · rfl
  · exfalso
    have hlim := Pn.lim_bd x.zs x.rs hg
    have hl2 : lowB x.t x.tol (x.raw (l ++ [(k : Int)])) = true := hl
    unfold lowB at hl2
    obtain ⟨j, hj, hlow⟩ := (lowTo_iff _ _ _ 5).1 hl2
    have hle : StLe (l ++ [(k : Int)]) (l ++ [(k' : Int)] ++ r) := fun z => by
      have h0 := (Pre.all (lim := x.lim) hp (c := 20) hlim z).1
      rcases Nat.lt_trichotomy z l.length with hz | hz | hz
      · have e1 : ig (l ++ [(k : Int)]) z = ig l z := ig_snoc_lt l _ hz
        have e2 : ig (l ++ [(k' : Int)] ++ r) z = ig l z := by
          rw [List.append_assoc]
          unfold ig
          rw [List.getD_eq_getElem?_getD, List.getD_eq_getElem?_getD, List.getElem?_append_left hz]
        rw [e1, e2]
        exact Int.le_refl _
      · subst hz
        have e1 : ig (l ++ [(k : Int)]) l.length = k := Pn.ig_snoc l _
        have e2 : ig (l ++ [(k' : Int)] ++ r) l.length = k' := by
          have e3 := Pn.ig_snoc l (k' : Int)
          unfold ig at e3 ⊢
          rw [List.getD_eq_getElem?_getD] at e3 ⊢
          rw [List.getElem?_append_left (by simp)]
          exact e3
        rw [e1, e2]
        omega
      · have e1 : ig (l ++ [(k : Int)]) z = 0 := by
          unfold ig
          rw [List.getD_eq_getElem?_getD, List.getElem?_eq_none (by simp; omega)]
          rfl
        rw [e1]
        exact h0
    have w := (turn_ok ha.r ha.z.len1 (Pre.fit hp)).walls
    have m := raw_mono ha.m ha.z ha.r.len1 w hle hj
    have a := lowK_mono m hlow
    have q := (Cx.plan_in hpl hj).1
    unfold Cx.raw at q
    rw [q] at a
    cases a
/-- The search of FirstPlan beside that of CountPlans. -/
theorem Cx.lock (x : Cx) (hg : 0 ≤ x.most) (bud : Int) : Lk (srch (x.q (-1) true) (x.zs.length + 1) [] ⟨bud, false, 0, [], -1⟩) (srch (x.q (-1) false) (x.zs.length + 1) [] ⟨bud, false, 0, [], -1⟩) :=
  srch_lock (lim := x.lim) (fun k => (Pn.lim_bd x.zs x.rs hg k).1) _ [] _ (Pre.nil _) rfl rfl
/-- What a search for plans finds. -/
theorem Cx.found (x : Cx) (hg : 0 ≤ x.most) (sum : Int) (first : Bool) (bud : Int) : Fnd x.lim x.plan (srch (x.q sum first) (x.zs.length + 1) [] ⟨bud, false, 0, [], -1⟩) :=
  srch_found (q := x.q sum first) (plan := x.plan) rfl (fun k => (Pn.lim_bd x.zs x.rs hg k).1) _ [] _ (Pre.nil _) ⟨by simp, fun h => by simp at h⟩
/-- A search that is not spent and finds nothing: there is no plan (of that sum). -/
theorem Cx.none {x : Cx} (ha : AskOK x.zs x.ws x.bs x.nm x.rs) (hg : 0 ≤ x.most) (sum : Int) (first : Bool) (bud : Int) (hc : (srch (x.q sum first) (x.zs.length + 1) [] ⟨bud, false, 0, [], -1⟩).count = 0) (hs : (srch (x.q sum first) (x.zs.length + 1) [] ⟨bud, false, 0, [], -1⟩).spent = false) {l : List Int} (hp : Pre x.lim l) (hl : l.length = x.lim.length) (hsum : sum < 0 ∨ sumA l = sum) : x.plan l = false :=
  srch_none (q := x.q sum first) (plan := x.plan) rfl (Cx.lowOK ha hg sum first) (fun k => (Pn.lim_bd x.zs x.rs hg k).1) (x.zs.length + 1) [] ⟨bud, false, 0, [], -1⟩ (by show x.lim.length < _; rw [x.lim_length]; simp) (Pre.nil _) rfl rfl hc hs l (by rw [List.nil_append]; exact hp) (by rw [List.nil_append]; exact hl) (by rw [List.nil_append]; exact hsum)
end Go.Proofs.YtnefgafmnpblpaaGreat
namespace Go.Proofs.YtnefgafmnpblpaaGreat.Pn
open Go.Proofs.YtnefgafmnpblpaaGreat

/-- What is found has the least deviation so far. -/
def FndC (lim : List Int) (snd : List Int → Bool) (dev : List Int → Int) (s : S) : Prop := 0 ≤ s.least → Pre lim s.found ∧ s.found.length = lim.length ∧ snd s.found = true ∧ dev s.found = s.least
theorem srch_foundC {q : Q} {snd : List Int → Bool} {dev : List Int → Int} (hq : q.look = lookC snd dev) (hlim : ∀ k, 0 ≤ ig q.lim k) (f : Nat) (l : List Int) (s : S) (hp : Pre q.lim l) (h : FndC q.lim snd dev s) : FndC q.lim snd dev (srch q f l s) :=
  srch_ind (R := fun a b => FndC q.lim snd dev a → FndC q.lim snd dev b) (fun _ h => h) (fun _ _ _ h1 h2 h => h2 (h1 h)) (fun _ h => h) (fun _ h => h) hlim (fun l s hp hl h => by
    rw [hq]; unfold lookC
    split
    · rename_i hsn
      split
      · exact fun _ => ⟨hp, hl, hsn, rfl⟩
      · exact h
    · exact h) f l s hp h
def LeS (a b : S) : Prop := 0 ≤ a.least → 0 ≤ b.least ∧ b.least ≤ a.least
theorem LeS.refl (a : S) : LeS a a := fun h => ⟨h, Int.le_refl _⟩
theorem LeS.trans {a b c : S} (h1 : LeS a b) (h2 : LeS b c) : LeS a c := fun h => by
  have x := h1 h
  have y := h2 x.1
  exact ⟨y.1, by omega⟩
theorem look_les {snd : List Int → Bool} {dev : List Int → Int} (hd : ∀ l, 0 ≤ dev l) (l : List Int) (s : S) : LeS s (lookC snd dev l s) := by
  unfold lookC
  split
  · split
    · rename_i h
      intro h0
      have := hd l
      simp only
      omega
    · exact LeS.refl s
  · exact LeS.refl s
theorem srch_les {q : Q} {snd : List Int → Bool} {dev : List Int → Int} (hq : q.look = lookC snd dev) (hd : ∀ l, 0 ≤ dev l) (hlim : ∀ k, 0 ≤ ig q.lim k) (f : Nat) (l : List Int) (s : S) (hp : Pre q.lim l) : LeS s (srch q f l s) :=
  srch_ind (R := LeS) LeS.refl (fun _ _ _ => LeS.trans) (fun s => LeS.refl s) (fun s => LeS.refl s) hlim (fun l s _ _ => by rw [hq]; exact look_les hd l s) f l s hp
theorem srch_spentC {q : Q} {snd : List Int → Bool} {dev : List Int → Int} (hq : q.look = lookC snd dev) (hlim : ∀ k, 0 ≤ ig q.lim k) (f : Nat) (l : List Int) (s : S) (hp : Pre q.lim l) : s.spent = true → (srch q f l s).spent = true :=
  srch_ind (R := fun a b => a.spent = true → b.spent = true) (fun _ h => h) (fun _ _ _ h1 h2 h => h2 (h1 h)) (fun _ _ => rfl) (fun _ h => h) hlim (fun l s _ _ h => by
    rw [hq]; unfold lookC
    split
    · split
      · exact h
      · exact h
    · exact h) f l s hp
/-- Nothing is closer than what is found. -/
theorem srch_least {q : Q} {snd : List Int → Bool} {dev : List Int → Int} (hq : q.look = lookC snd dev) (hd : ∀ l, 0 ≤ dev l) (hf : q.first = false) (hlow : ∀ l, q.low l = false) (hsm : q.sum < 0) (hlim : ∀ k, 0 ≤ ig q.lim k) : ∀ (f : Nat) (l : List Int) (s : S), q.lim.length < l.length + f → Pre q.lim l → s.spent = false → (srch q f l s).spent = false → ∀ r, Pre q.lim (l ++ r) → (l ++ r).length = q.lim.length → snd (l ++ r) = true → 0 ≤ (srch q f l s).least ∧ (srch q f l s).least ≤ dev (l ++ r) := by
  intro f
  induction f with
  | zero => intro l s hf hp _ _; have := hp.len; omega
  | succ f ih =>
    intro l s hfu hp hsp hs2 r hpr hlr hsn
    by_cases hfl : l.length = q.lim.length
    · have hr : r = [] := by
        have : (l ++ r).length = l.length + r.length := by simp
        exact List.length_eq_zero_iff.1 (by omega)
      subst hr
      rw [List.append_nil] at hsn ⊢
      rw [srch_full hfl, hq]
      unfold lookC
      rw [if_pos hsn]
      have := hd l
      split
      · simp only; omega
      · rename_i h
        omega
    · rw [srch_goes hfl] at hs2 ⊢
      have key : ∀ (m k : Nat) (s : S), k + m = (ig q.lim l.length).toNat + 1 → s.spent = false → (goK q (srch q f) l m k s).spent = false → ∀ (k' : Nat) (r : List Int), k ≤ k' → Pre q.lim (l ++ [(k' : Int)] ++ r) → (l ++ [(k' : Int)] ++ r).length = q.lim.length → snd (l ++ [(k' : Int)] ++ r) = true → 0 ≤ (goK q (srch q f) l m k s).least ∧ (goK q (srch q f) l m k s).least ≤ dev (l ++ [(k' : Int)] ++ r) := by
        intro m
        induction m with
        | zero =>
          intro k s hk _ _ k' r hkk hpr _ _
          have := (hpr.head).at_ l.length (by simp)
          rw [ig_snoc] at this
          omega
        | succ m ihm =>
          intro k s hk hsp hs2 k' r hkk hpr hlr hsn
          have ht : tried q (l ++ [(k : Int)]) = true := by unfold tried; simp [hsm]
          have he : ended q s = false := by unfold ended; simp [hsp, hf]
          by_cases h0 : s.left = 0
          · rw [goK_spent ht he h0] at hs2
            cases hs2
          · rw [goK_go ht he h0 (hlow _)] at hs2 ⊢
            by_cases hkl : (k : Int) ≤ ig q.lim l.length
            · have hp2 : Pre q.lim (l ++ [(k : Int)]) := hp.snoc (by have := hp.len; omega) (by omega) hkl
              have ml := goK_ind (q := q) (rec := srch q f) (l := l) (R := LeS) LeS.refl (fun _ _ _ => LeS.trans) (fun s => LeS.refl s) (fun s => LeS.refl s) (fun k' hk' _ s => srch_les hq hd hlim f _ s (hp.snoc (by have := hp.len; omega) (by omega) hk')) (hlim _) m (k + 1) (srch q f (l ++ [(k : Int)]) { s with left := s.left - 1 }) (by omega)
              have ms := goK_ind (q := q) (rec := srch q f) (l := l) (R := fun a b => a.spent = true → b.spent = true) (fun _ h => h) (fun _ _ _ h1 h2 h => h2 (h1 h)) (fun _ _ => rfl) (fun _ h => h) (fun k' hk' _ s => srch_spentC hq hlim f _ s (hp.snoc (by have := hp.len; omega) (by omega) hk')) (hlim _) m (k + 1) (srch q f (l ++ [(k : Int)]) { s with left := s.left - 1 }) (by omega)
              have s1 : (srch q f (l ++ [(k : Int)]) { s with left := s.left - 1 }).spent = false := by
                cases hh : (srch q f (l ++ [(k : Int)]) { s with left := s.left - 1 }).spent
                · rfl
                · rw [ms hh] at hs2; cases hs2
              by_cases e : k' = k
              · subst e
                have a := ih (l ++ [(k' : Int)]) { s with left := s.left - 1 } (by simp; omega) hp2 hsp s1 r hpr hlr hsn
                have b := ml a.1
                exact ⟨b.1, by omega⟩
              · exact ihm (k + 1) _ (by omega) s1 hs2 k' r (by omega) hpr hlr hsn
            · have := (hpr.head).at_ l.length (by simp)
              rw [ig_snoc] at this
              omega
      have hlt : 0 < r.length := by
        have : (l ++ r).length = l.length + r.length := by simp
        have := hp.len
        omega
      match r, hlt with
      | a :: r, _ =>
        have e : l ++ a :: r = l ++ [a] ++ r := by simp
        rw [e] at hpr hlr hsn ⊢
        have ha := (hpr.head).at_ l.length (by simp)
        rw [ig_snoc] at ha
        obtain ⟨k', rfl⟩ : ∃ k' : Nat, a = k' := ⟨a.toNat, (Int.toNat_of_nonneg ha.1).symm⟩
        exact key _ 0 s (by omega) hsp hs2 k' r (by omega) hpr hlr hsn
end Go.Proofs.YtnefgafmnpblpaaGreat.Pn
namespace Go.Proofs.YtnefgafmnpblpaaGreat
open Pn

/-- The first partial from k on, of m, that is too low before any step or too high at the limits, and which. -/
def blkF (t : List Int) (tol : Int) (r0 r1 : List Int) : Nat → Nat → Int × Int
  | 0, _ => (0, 0)
  | m + 1, k => if lowK t tol k (ig r0 k) then ((k : Int) + 1, -1) else if highK t tol k (ig r1 k) then ((k : Int) + 1, 1) else blkF t tol r0 r1 m (k + 1)
theorem blkF_some (t : List Int) (tol : Int) (r0 r1 : List Int) : ∀ m k : Nat, 0 ≤ (blkF t tol r0 r1 m k).1 ∧ ((blkF t tol r0 r1 m k).1 = 0 ↔ (blkF t tol r0 r1 m k).2 = 0)
  | 0, _ => by simp [blkF]
  | m + 1, k => by
    unfold blkF
    split
    · simp only; omega
    · split
      · simp only; omega
      · exact blkF_some t tol r0 r1 m (k + 1)
theorem blkF_none {t : List Int} {tol : Int} {r0 r1 : List Int} (h : ∀ k, k < 5 → lowK t tol k (ig r0 k) = false ∧ highK t tol k (ig r1 k) = false) : ∀ m k : Nat, k + m ≤ 5 → blkF t tol r0 r1 m k = (0, 0)
  | 0, _, _ => rfl
  | m + 1, k, hk => by
    have a := h k (by omega)
    unfold blkF
    rw [a.1, a.2]
    exact blkF_none h m (k + 1) (by omega)
/-- What BlockedBy answers: the partial, why, and a code. -/
noncomputable def blkP (x : Cx) : Int × Int × Int := if aimB x.zs x.ws x.bs x.nm x.rs x.t x.tol x.most = 0 then ((blkF x.t x.tol (x.raw []) (x.raw x.lim) 5 0).1, (blkF x.t x.tol (x.raw []) (x.raw x.lim) 5 0).2, 0) else (0, 0, aimB x.zs x.ws x.bs x.nm x.rs x.t x.tol x.most)
/-- Where there is a plan, nothing blocks. -/
theorem blkP_plan {x : Cx} (ha : AskOK x.zs x.ws x.bs x.nm x.rs) (hg : 0 ≤ x.most) {l : List Int} (hp : Pre x.lim l) (hpl : x.plan l = true) : blkF x.t x.tol (x.raw []) (x.raw x.lim) 5 0 = (0, 0) :=
  blkF_none (fun _ hk => Cx.no_plan ha hg hp hpl hk) 5 0 (by omega)
end Go.Proofs.YtnefgafmnpblpaaGreat
namespace Go.Proofs.YtnefgafmnpblpaaGreat
open Go.RowKit Pn

theorem aim_ok {x : Cx} (h : aimB x.zs x.ws x.bs x.nm x.rs x.t x.tol x.most = 0) : AskOK x.zs x.ws x.bs x.nm x.rs ∧ GoalOK x.t x.tol x.most := by
  unfold aimB at h
  cases hg : dc (GoalOK x.t x.tol x.most)
  · rw [hg] at h; simp at h
  · rw [hg] at h
    exact ⟨ask_zero h, of_dc hg⟩
theorem ser_aim {x : Cx} {bud : Int} (h : x.ser bud = 0) : aimB x.zs x.ws x.bs x.nm x.rs x.t x.tol x.most = 0 := by
  unfold Cx.ser serB at h
  by_cases ha : aimB x.zs x.ws x.bs x.nm x.rs x.t x.tol x.most = 0
  · exact ha
  · rw [if_neg ha] at h; exact absurd h ha
/-- All steps of a search, within the limits. -/
structure Full (x : Cx) (l : List Int) : Prop where
  pre : Pre x.lim l
  len : l.length = x.zs.length
theorem Full.len' {x : Cx} {l : List Int} (h : Full x l) : l.length = x.lim.length := by rw [x.lim_length]; exact h.len
theorem Full.bd {x : Cx} {l : List Int} (h : Full x l) (hg : 0 ≤ x.most) : ∀ k, 0 ≤ ig l k ∧ ig l k ≤ 20 := h.pre.all (Pn.lim_bd x.zs x.rs hg)
/-- Cuts of zones. -/
abbrev cg (l : List CutR) (k : Nat) : CutR := l.getD k ⟨0, 0⟩
theorem cg_eq {l : List CutR} {k : Nat} (h : k < l.length) : l[k] = cg l k := by unfold cg; rw [List.getD_eq_getElem?_getD, List.getElem?_eq_getElem h]; rfl
structure CutOK (n : Int) (c : CutR) : Prop where
  zone : 0 ≤ c.zone ∧ c.zone < n
  steps : 1 ≤ c.steps ∧ c.steps ≤ 20
/-- Cuts that a search can find. -/
structure CutsOK (n : Nat) (xs : List CutR) : Prop where
  n8 : n ≤ 8
  len : xs.length ≤ 8
  at_ : ∀ c ∈ xs, CutOK n c
theorem CutsOK.get {n : Nat} {xs : List CutR} (h : CutsOK n xs) {k : Nat} (hk : k < xs.length) : CutOK n (cg xs k) := by
  rw [← cg_eq hk]; exact h.at_ _ (List.getElem_mem hk)
/-- The steps of zones, with one more cut. -/
def addC (st : List Int) (c : CutR) : List Int := st.set c.zone.toNat (ig st c.zone.toNat + c.steps)
def sumL (xs : List CutR) (k : Nat) : List Int := (xs.take k).foldl addC (List.replicate 8 0)
theorem sumL_succ {xs : List CutR} {k : Nat} (h : k < xs.length) : sumL xs (k + 1) = addC (sumL xs k) (cg xs k) := by
  unfold sumL
  rw [List.take_add_one, List.getElem?_eq_getElem h, List.foldl_append, cg_eq h]
  rfl
theorem addC_length (st : List Int) (c : CutR) : (addC st c).length = st.length := by unfold addC; simp
theorem ig_addC (st : List Int) (c : CutR) (j : Nat) (h : c.zone.toNat < st.length) : ig (addC st c) j = if j = c.zone.toNat then ig st c.zone.toNat + c.steps else ig st j := by
  unfold addC; exact ig_set _ _ _ _ h
theorem sumL_length {xs : List CutR} : ∀ k, k ≤ xs.length → (sumL xs k).length = 8
  | 0, _ => by unfold sumL; simp
  | k + 1, h => by rw [sumL_succ (by omega), addC_length]; exact sumL_length k (by omega)
theorem sumL_bd {n : Nat} {xs : List CutR} (h : CutsOK n xs) : ∀ k, k ≤ xs.length → ∀ j, 0 ≤ ig (sumL xs k) j ∧ ig (sumL xs k) j ≤ 20 * k
  | 0, _, j => by
    have e : sumL xs 0 = List.replicate 8 0 := by unfold sumL; simp
    rw [e, ig_rep]; omega
  | k + 1, hk, j => by
    have a := sumL_bd h k (by omega)
    have b := (h.get (k := k) (by omega))
    have b1 := b.zone
    have b2 := b.steps
    have hn := h.n8
    have hz : (cg xs k).zone.toNat < (sumL xs k).length := by rw [sumL_length k (by omega)]; omega
    have aj := a j
    have az := a (cg xs k).zone.toNat
    rw [sumL_succ (by omega)]
    unfold addC
    rw [ig_set _ _ _ _ hz]
    split <;> omega
theorem cutsTo_ok {l : List Int} (h : ∀ k, ig l k ≤ 20) : ∀ k : Nat, ∀ c ∈ cutsTo l k, CutOK k c
  | 0, c, hc => by simp [cutsTo] at hc
  | k + 1, c, hc => by
    unfold cutsTo at hc
    have up : CutOK k c → CutOK ((k + 1 : Nat) : Int) c := fun q => ⟨by have := q.zone; omega, q.steps⟩
    split at hc
    · rename_i hp
      rcases List.mem_append.1 hc with hc | hc
      · exact up (cutsTo_ok h k c hc)
      · simp only [List.mem_singleton] at hc
        subst hc
        have := h k
        exact ⟨by simp only; omega, by simp only; omega⟩
    · exact up (cutsTo_ok h k c hc)
theorem cutsTo_sum {l : List Int} (h0 : ∀ k, 0 ≤ ig l k) (hn : l.length ≤ 8) : ∀ k : Nat, k ≤ l.length → ((cutsTo l k).foldl addC (List.replicate 8 0)).length = 8 ∧ ∀ j, ig ((cutsTo l k).foldl addC (List.replicate 8 0)) j = if j < k then ig l j else 0
  | 0, _ => ⟨by simp [cutsTo], fun j => by
    have e : (cutsTo l 0).foldl addC (List.replicate 8 0) = List.replicate 8 0 := rfl
    rw [e, ig_rep]; simp⟩
  | k + 1, hk => by
    obtain ⟨a1, a2⟩ := cutsTo_sum h0 hn k (by omega)
    have hk0 := h0 k
    unfold cutsTo
    split
    · rename_i hp
      rw [List.foldl_append]
      refine ⟨by simp only [List.foldl_cons, List.foldl_nil]; rw [addC_length]; exact a1, fun j => ?_⟩
      simp only [List.foldl_cons, List.foldl_nil]
      have ek : ((k : Int)).toNat = k := by omega
      rw [ig_addC _ _ _ (by simp only; rw [ek, a1]; omega)]
      simp only
      rw [ek, a2, a2]
      rw [if_neg (show ¬ k < k by omega)]
      by_cases e : j = k
      · subst e; rw [if_pos rfl, if_pos (by omega)]; omega
      · rw [if_neg e]
        by_cases e2 : j < k
        · rw [if_pos e2, if_pos (by omega)]
        · rw [if_neg e2, if_neg (by omega)]
    · rename_i hp
      refine ⟨a1, fun j => ?_⟩
      rw [a2]
      by_cases e : j = k
      · subst e; rw [if_neg (by omega), if_pos (by omega)]; omega
      · by_cases e2 : j < k
        · rw [if_pos e2, if_pos (by omega)]
        · rw [if_neg e2, if_neg (by omega)]
def totC (xs : List CutR) (k : Nat) : Int := (xs.take k).foldl (fun s c => s + c.steps) 0
theorem totC_succ {xs : List CutR} {k : Nat} (h : k < xs.length) : totC xs (k + 1) = totC xs k + (cg xs k).steps := by
  unfold totC
  rw [List.take_add_one, List.getElem?_eq_getElem h, List.foldl_append, cg_eq h]
  rfl
theorem totC_bd {n : Nat} {xs : List CutR} (h : CutsOK n xs) : ∀ k, k ≤ xs.length → 0 ≤ totC xs k ∧ totC xs k ≤ 20 * k
  | 0, _ => by have e : totC xs 0 = 0 := by unfold totC; simp
               rw [e]; omega
  | k + 1, hk => by
    have a := totC_bd h k (by omega)
    have b := (h.get (k := k) (by omega)).steps
    rw [totC_succ (by omega)]
    omega
theorem cutsTo_tot {l : List Int} (h0 : ∀ k, 0 ≤ ig l k) : ∀ k : Nat, (cutsTo l k).foldl (fun s c => s + c.steps) 0 = sumTo l k
  | 0 => rfl
  | k + 1 => by
    have a := cutsTo_tot h0 k
    have hk0 := h0 k
    unfold cutsTo sumTo
    split
    · rw [List.foldl_append, a]; rfl
    · rw [a]; omega
/-- Steps as cuts, and back. -/
structure CutsOf (n : Nat) (l : List Int) (xs : List CutR) : Prop where
  ok : CutsOK n xs
  sum : ∀ j, ig (sumL xs xs.length) j = ig l j
  tot : totC xs xs.length = sumA l
theorem cutsB_of {l : List Int} {n : Nat} (hl : l.length = n) (hn : n ≤ 8) (h : ∀ k, 0 ≤ ig l k ∧ ig l k ≤ 20) : CutsOf n l (cutsB l) := by
  subst hl
  unfold cutsB
  refine ⟨⟨hn, by have := cutsTo_len l l.length; omega, cutsTo_ok (fun k => (h k).2) _⟩, fun j => ?_, ?_⟩
  · unfold sumL
    rw [List.take_length, (cutsTo_sum (fun k => (h k).1) hn _ (Nat.le_refl _)).2]
    split
    · rfl
    · rw [ig_out (by omega)]
  · unfold totC
    rw [List.take_length, cutsTo_tot (fun k => (h k).1)]
    rfl
theorem Full.cuts {x : Cx} {l : List Int} (h : Full x l) (hg : 0 ≤ x.most) (hn : x.zs.length ≤ 8) : CutsOf x.zs.length l (cutsB l) := cutsB_of h.len hn (h.bd hg)
theorem plan_snd {x : Cx} {l : List Int} (h : x.plan l = true) : x.snd l = true ∧ x.dev l ≤ x.tol := by
  unfold Cx.plan at h
  simpa using h
theorem snd_plan {x : Cx} {l : List Int} (h : x.snd l = true) : x.plan l = decide (x.dev l ≤ x.tol) := by
  unfold Cx.plan; rw [h]; simp
theorem qf_qx (x : Cx) : x.q (-1) true = x.qx false false := q_qx x true
theorem qc_qx (x : Cx) : x.q (-1) false = x.qx true false := q_qx x false
/-- What FirstPlan answers. -/
theorem firstP_says {x : Cx} {bud : Int} (h0 : x.ser bud = 0) : ((firstP x bud).1 = [] ∧ ((firstP x bud).2 = 5 ∨ ((firstP x bud).2 = 3 ∧ ∀ l, Full x l → x.plan l = false))) ∨ ((firstP x bud).2 = 0 ∧ ∃ l, Full x l ∧ x.plan l = true ∧ (firstP x bud).1 = cutsB l) := by
  obtain ⟨ha, hg⟩ := aim_ok (ser_aim h0)
  unfold firstP
  rw [if_pos h0]
  have hf := x.found hg.most.1 (-1) true bud
  have hn := fun hc hs l => Cx.none ha hg.most.1 (-1) true bud hc hs (l := l)
  rw [qf_qx] at hf hn
  change Fnd x.lim x.plan (x.fin false false bud) at hf
  change (x.fin false false bud).count = 0 → (x.fin false false bud).spent = false → _ at hn
  generalize x.fin false false bud = s at *
  unfold plnd
  cases hs : s.spent
  · by_cases hc : s.count = 0
    · refine .inl ?_
      simp only [if_pos hc]
      refine ⟨rfl, .inr ⟨rfl, fun l hl => hn hc hs l hl.pre hl.len' (.inl (by omega))⟩⟩
    · refine .inr ?_
      simp only [if_neg hc]
      have := hf.2 (by have := hf.1; omega)
      exact ⟨rfl, s.found, ⟨this.1, by rw [this.2.1, x.lim_length]⟩, this.2.2, rfl⟩
  · exact .inl ⟨rfl, .inl rfl⟩
/-- FirstPlan finds one exactly if CountPlans counts some. -/
theorem count_says {x : Cx} {bud : Int} (h0 : x.ser bud = 0) (h : (cntP x bud).2 = 0) : (firstP x bud).2 = 0 ↔ 0 < (cntP x bud).1 := by
  obtain ⟨ha, hg⟩ := aim_ok (ser_aim h0)
  have hl := x.lock hg.most.1 bud
  rw [qf_qx, qc_qx] at hl
  change Lk (x.fin false false bud) (x.fin true false bud) at hl
  unfold cntP at h ⊢
  unfold firstP plnd
  rw [if_pos h0] at h ⊢
  rw [if_pos h0]
  generalize x.fin false false bud = a at *
  generalize x.fin true false bud = b at *
  cases hb : b.spent
  · rcases hl with ⟨rfl, hc⟩ | ⟨h1, h2, h3⟩
    · simp [hb, hc]
    · have hc : ¬ a.count = 0 := by omega
      simp [h2, hc, h3]
  · rw [hb] at h; simp at h
/-- What ClosestPlan answers. -/
theorem closeP_says {x : Cx} {bud : Int} (h0 : x.ser bud = 0) : ((closeP x bud).1 = [] ∧ ((closeP x bud).2.2 = 5 ∨ ((closeP x bud).2.2 = 3 ∧ ∀ l, Full x l → x.snd l = false))) ∨ ((closeP x bud).2.2 = 0 ∧ ∃ l, Full x l ∧ x.snd l = true ∧ (closeP x bud).1 = cutsB l ∧ (closeP x bud).2.1 = x.dev l ∧ ∀ l', Full x l' → x.snd l' = true → x.dev l ≤ x.dev l') := by
  obtain ⟨ha, hg⟩ := aim_ok (ser_aim h0)
  have hlim : ∀ k, 0 ≤ ig x.lim k := fun k => (Pn.lim_bd x.zs x.rs hg.most.1 k).1
  have hd : ∀ l, 0 ≤ x.dev l := fun l => by unfold Cx.dev grB; exact gr_nonneg _ _
  have hf : FndC x.lim x.snd x.dev (x.fin false true bud) := srch_foundC (q := x.qx false true) rfl hlim _ [] _ (Pre.nil _) (fun h => by simp at h)
  have hm : (x.fin false true bud).spent = false → ∀ l, Full x l → x.snd l = true → 0 ≤ (x.fin false true bud).least ∧ (x.fin false true bud).least ≤ x.dev l := fun hs l hl hsn => by
    have := srch_least (q := x.qx false true) (snd := x.snd) (dev := x.dev) rfl hd rfl (fun _ => rfl) (by show (-1 : Int) < 0; omega) hlim (x.zs.length + 1) [] ⟨bud, false, 0, [], -1⟩ (by show x.lim.length < _; rw [x.lim_length]; simp) (Pre.nil _) rfl hs l (by rw [List.nil_append]; exact hl.pre) (by rw [List.nil_append]; exact hl.len') (by rw [List.nil_append]; exact hsn)
    rw [List.nil_append] at this
    exact this
  unfold closeP
  rw [if_pos h0]
  generalize x.fin false true bud = s at *
  cases hs : s.spent
  · by_cases hc : s.least < 0
    · refine .inl ?_
      simp only [if_pos hc]
      refine ⟨rfl, .inr ⟨rfl, fun l hl => ?_⟩⟩
      cases hsn : x.snd l
      · rfl
      · have := hm hs l hl hsn; omega
    · refine .inr ?_
      simp only [if_neg hc]
      have := hf (by omega)
      refine ⟨rfl, s.found, ⟨this.1, by rw [this.2.1, x.lim_length]⟩, this.2.2.1, rfl, this.2.2.2.symm, fun l hl hsn => ?_⟩
      rw [this.2.2.2]
      exact (hm hs l hl hsn).2
  · exact .inl ⟨rfl, .inl rfl⟩
namespace Pn
/-- What is found has the sum that is wanted. -/
def FndS (q : Q) (s : S) : Prop := 0 ≤ s.count ∧ (0 < s.count → SumOK q s.found)
theorem tried_sum {q : Q} {l : List Int} (h : tried q l = true) (hl : l.length = q.lim.length) : SumOK q l := by
  unfold tried at h
  simp only [Bool.or_eq_true, Bool.and_eq_true, decide_eq_true_eq] at h
  rcases h with h | ⟨_, h | h⟩
  · exact .inl h
  · omega
  · exact .inr h
theorem srch_sum {q : Q} {plan : List Int → Bool} (hq : q.look = lookP plan) (hlim : ∀ k, 0 ≤ ig q.lim k) : ∀ (f : Nat) (l : List Int) (s : S), Pre q.lim l → (l.length = q.lim.length → SumOK q l) → FndS q s → FndS q (srch q f l s) := by
  intro f
  induction f with
  | zero => intro l s _ _ h; exact h
  | succ f ih =>
    intro l s hp hl h
    by_cases hfl : l.length = q.lim.length
    · rw [srch_full hfl, hq]
      unfold lookP
      split
      · refine ⟨by have := h.1; simp only; omega, fun _ => ?_⟩
        simp only
        split
        · exact hl hfl
        · rename_i hc
          have : s.count ≠ 0 := by simpa using hc
          exact h.2 (by have := h.1; omega)
      · exact h
    · rw [srch_goes hfl]
      exact goK_ind (R := fun a b => FndS q a → FndS q b) (fun _ h => h) (fun _ _ _ h1 h2 h => h2 (h1 h)) (fun _ h => h) (fun _ h => h) (fun k hk ht s h => ih _ s (hp.snoc (by have := hp.len; omega) (by omega) hk) (tried_sum ht) h) (hlim _) _ 0 s (by omega) h
end Pn
/-- The state of the search for the least sum, ahead of the sum k. -/
structure ShInv (x : Cx) (k : Int) (s : S) : Prop where
  fnd : Fnd x.lim x.plan s
  none : s.spent = false → s.count = 0 → ∀ l, Full x l → x.plan l = true → k ≤ sumA l
  least : s.spent = false → 0 < s.count → ∀ l, Full x l → x.plan l = true → sumA s.found ≤ sumA l
theorem sumA_nonneg {x : Cx} {l : List Int} (h : Full x l) (hg : 0 ≤ x.most) : 0 ≤ sumA l := by
  unfold sumA
  exact (sumTo_bd (c := 20) _ fun j _ => h.bd hg j).1
theorem ShInv.start (x : Cx) (hg : 0 ≤ x.most) (bud : Int) : ShInv x 0 ⟨bud, false, 0, [], -1⟩ :=
  ⟨⟨by simp, fun h => by simp at h⟩, fun _ _ l hl _ => sumA_nonneg hl hg, fun _ h => by simp at h⟩
theorem ShInv.next {x : Cx} {k : Int} {s : S} (h : ShInv x k s) (hk : 0 ≤ k) (ha : AskOK x.zs x.ws x.bs x.nm x.rs) (hg : 0 ≤ x.most) (hsp : s.spent = false) (hc : s.count = 0) : ShInv x (k + 1) (srch (x.q k true) (x.zs.length + 1) [] s) := by
  have hlim : ∀ k, 0 ≤ ig x.lim k := fun k => (Pn.lim_bd x.zs x.rs hg k).1
  have hz := ha.z.len1
  have hf : Fnd x.lim x.plan (srch (x.q k true) (x.zs.length + 1) [] s) := srch_found (q := x.q k true) (plan := x.plan) rfl hlim _ [] _ (Pre.nil _) h.fnd
  have hs : FndS (x.q k true) (srch (x.q k true) (x.zs.length + 1) [] s) := srch_sum (q := x.q k true) (plan := x.plan) rfl hlim _ [] _ (Pre.nil _) (fun e => by
    have e2 : 0 = x.lim.length := e
    rw [x.lim_length] at e2; omega) ⟨by omega, fun h => by omega⟩
  refine ⟨hf, fun hs2 hc2 l hl hpl => ?_, fun hs2 hc2 l hl hpl => ?_⟩
  · have a := h.none hsp hc l hl hpl
    have b := srch_none (q := x.q k true) (plan := x.plan) rfl (Cx.lowOK ha hg k true) hlim (x.zs.length + 1) [] s (by show x.lim.length < _; rw [x.lim_length]; simp) (Pre.nil _) hc hsp hc2 hs2 l (by rw [List.nil_append]; exact hl.pre) (by rw [List.nil_append]; exact hl.len')
    rw [List.nil_append] at b
    by_cases e : sumA l = k
    · rw [b (.inr e)] at hpl; cases hpl
    · omega
  · have a := h.none hsp hc l hl hpl
    rcases hs.2 hc2 with e | e
    · have e : k < 0 := e
      omega
    · have e : sumA (srch (x.q k true) (x.zs.length + 1) [] s).found = k := e
      omega
/-- What ShortestPlan answers. -/
def ShortOK (x : Cx) (xs : List CutR) (code : Int) : Prop :=
  (xs = [] ∧ (code = 5 ∨ (code = 3 ∧ ∀ l, Full x l → x.plan l = false))) ∨ (code = 0 ∧ ∃ l, Full x l ∧ x.plan l = true ∧ xs = cutsB l ∧ ∀ l', Full x l' → x.plan l' = true → sumA l ≤ sumA l')
theorem sumTo_le {a b : List Int} : ∀ n : Nat, (∀ k, k < n → ig a k ≤ ig b k) → sumTo a n ≤ sumTo b n
  | 0, _ => Int.le_refl _
  | n + 1, h => by
    have := sumTo_le n fun k hk => h k (by omega)
    have := h n (by omega)
    unfold sumTo
    omega
theorem Full.sum_le {x : Cx} {l : List Int} (h : Full x l) : sumA l ≤ sumA x.lim := by
  unfold sumA
  rw [h.len']
  exact sumTo_le _ fun k hk => (h.pre.at_ k (by rw [h.len']; exact hk)).2
theorem ShInv.ends {x : Cx} {k : Int} {s : S} (h : ShInv x k s) (hend : s.spent = false → s.count = 0 → sumA x.lim < k) : ShortOK x (plnd s).1 (plnd s).2 := by
  unfold plnd
  cases hs : s.spent
  · by_cases hc : s.count = 0
    · refine .inl ?_
      simp only [if_pos hc]
      refine ⟨rfl, .inr ⟨rfl, fun l hl => ?_⟩⟩
      cases hpl : x.plan l
      · rfl
      · have := h.none hs hc l hl hpl
        have := hl.sum_le
        have := hend hs hc
        omega
    · refine .inr ?_
      simp only [if_neg hc]
      have hp : 0 < s.count := by have := h.fnd.1; omega
      have := h.fnd.2 hp
      exact ⟨rfl, s.found, ⟨this.1, by rw [this.2.1, x.lim_length]⟩, this.2.2, rfl, fun l' hl' hpl => h.least hs hp l' hl' hpl⟩
  · exact .inl ⟨rfl, .inl rfl⟩
end Go.Proofs.YtnefgafmnpblpaaGreat
