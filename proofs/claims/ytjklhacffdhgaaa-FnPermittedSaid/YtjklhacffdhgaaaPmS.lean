/- Permitted swings: the greedy choice is greatest, and the search for the greatest force is right when it had nodes enough. No program in sight. -/
import Derived.Test.YtjklhacffdhgaaaMoS
import Derived.Test.YtjklhacffdhgaaaPuS
namespace Go.Proofs.Ytjklhacffdhgaaa.Pm

/-- The sum of what stands at some places. -/
def sumA (al : List Int) : List Nat → Int
  | [] => 0
  | k :: l => al.getD k 0 + sumA al l
section
variable {al : List Int} {l l' L T : List Nat} {lim s : Int}
theorem sumA_append : sumA al (l ++ l') = sumA al l + sumA al l' := by
  induction l with
  | nil => simp [sumA]
  | cons k l ih => simp only [List.cons_append, sumA, ih]; omega
theorem sumA_perm (h : l.Perm l') : sumA al l = sumA al l' := by
  induction h with
  | nil => rfl
  | cons x _ ih => simp only [sumA, ih]
  | swap x y l => simp only [sumA]; omega
  | trans _ _ ih1 ih2 => exact ih1.trans ih2
theorem getD_nonneg (h : ∀ x ∈ al, 0 ≤ x) (k : Nat) : 0 ≤ al.getD k 0 := by
  rw [List.getD_eq_getElem?_getD]
  by_cases hk : k < al.length
  · rw [List.getElem?_eq_getElem hk]
    exact h _ (List.getElem_mem hk)
  · rw [List.getElem?_eq_none (by omega)]
    exact Int.le_refl _
theorem sumA_nonneg (h : ∀ x ∈ al, 0 ≤ x) : 0 ≤ sumA al l := by
  induction l with
  | nil => exact Int.le_refl _
  | cons k l ih => have := getD_nonneg h k; simp only [sumA]; omega
/-- In the order of what stands there. -/
abbrev Asc (al : List Int) (L : List Nat) : Prop := L.Pairwise fun x y => al.getD x 0 ≤ al.getD y 0
theorem insRr_mem {lt : Nat → Nat → Bool} {x y : Nat} {q : List Nat} (h : y ∈ Mo.insRr lt x q) : y = x ∨ y ∈ q := by
  have := Mo.insRr_perm.mem_iff.1 h
  simpa using this
theorem insRr_desc {x : Nat} : ∀ {q : List Nat}, (q.Pairwise fun x y => al.getD y 0 ≤ al.getD x 0) → (Mo.insRr (Mo.ltA al) x q).Pairwise fun x y => al.getD y 0 ≤ al.getD x 0 := by
  intro q
  induction q with
  | nil => intro _; simp [Mo.insRr]
  | cons b q ih =>
    intro h
    obtain ⟨h1, h2⟩ := List.pairwise_cons.1 h
    simp only [Mo.insRr]
    split
    · rename_i hl
      have hl2 : al.getD x 0 < al.getD b 0 := by simpa [Mo.ltA] using hl
      refine List.pairwise_cons.2 ⟨fun y hy => ?_, ih h2⟩
      rcases insRr_mem hy with rfl | hy
      · omega
      · exact h1 y hy
    · rename_i hl
      have hl2 : al.getD b 0 ≤ al.getD x 0 := by simpa [Mo.ltA] using hl
      refine List.pairwise_cons.2 ⟨fun y hy => ?_, h⟩
      rcases List.mem_cons.1 hy with rfl | hy
      · exact hl2
      · have := h1 y hy; omega
theorem insR_asc {x : Nat} (h : Asc al L) : Asc al (Mo.insR (Mo.ltA al) L x) := by
  unfold Mo.insR Asc
  rw [List.pairwise_reverse]
  exact insRr_desc (by rw [List.pairwise_reverse]; exact h)
theorem ord_asc (n : Nat) : Asc al (Mo.ordA (Mo.ltA al) n) := by
  induction n with
  | zero => exact List.Pairwise.nil
  | succ n ih => rw [Mo.ordA_succ]; exact insR_asc ih
/-- What the greedy choice leaves. -/
theorem takeG_split : ∀ (L : List Nat) (s : Int), s ≤ lim → ∃ R, L = Mo.takeG al lim L s ++ R ∧ s + sumA al (Mo.takeG al lim L s) ≤ lim ∧ (R = [] ∨ ∃ k R', R = k :: R' ∧ lim < s + sumA al (Mo.takeG al lim L s) + al.getD k 0) := by
  intro L
  induction L with
  | nil => intro s hs; exact ⟨[], rfl, by simp [Mo.takeG, sumA, hs], .inl rfl⟩
  | cons k L ih =>
    intro s hs
    simp only [Mo.takeG]
    by_cases h : lim < s + al.getD k 0
    · rw [if_pos h]
      exact ⟨k :: L, rfl, by simp [sumA, hs], .inr ⟨k, L, rfl, by simp only [sumA]; omega⟩⟩
    · rw [if_neg h]
      obtain ⟨R, e, h1, h2⟩ := ih (s + al.getD k 0) (by omega)
      refine ⟨R, ?_, by simp only [sumA]; omega, ?_⟩
      · rw [List.cons_append, ← e]
      · rcases h2 with h2 | ⟨m, R', e2, h3⟩
        · exact .inl h2
        · exact .inr ⟨m, R', e2, by simp only [sumA]; omega⟩
/-- No further one has room. -/
theorem greedy_more (hL : Asc al L) (hs : 0 ≤ lim) {x : Nat} (hx : x ∈ L) (hn : x ∉ Mo.takeG al lim L 0) : lim < sumA al (Mo.takeG al lim L 0) + al.getD x 0 := by
  obtain ⟨R, e, h1, h2⟩ := takeG_split (al := al) (lim := lim) L 0 hs
  rcases h2 with rfl | ⟨k, R', rfl, h3⟩
  · rw [List.append_nil] at e
    rw [← e] at hn
    exact absurd hx hn
  · have hx2 : x ∈ Mo.takeG al lim L 0 ++ k :: R' := by rw [← e]; exact hx
    have hxk : x ∈ k :: R' := by
      rcases List.mem_append.1 hx2 with q | q
      · exact absurd q hn
      · exact q
    have hp : Asc al (Mo.takeG al lim L 0 ++ k :: R') := by rw [← e]; exact hL
    have hk := (List.pairwise_append.1 hp).2.1
    rcases List.mem_cons.1 hxk with rfl | q
    · omega
    · have := (List.pairwise_cons.1 hk).1 x q
      omega
/-- The first ones weigh no more than as many others. -/
theorem take_le (h0 : ∀ x ∈ al, 0 ≤ x) {B L : List Nat} (h : B.Sublist L) : Asc al L → sumA al (L.take B.length) ≤ sumA al B := by
  induction h with
  | slnil => intro _; simp [sumA]
  | @cons B L a hs ih =>
    intro hL
    obtain ⟨h1, h2⟩ := List.pairwise_cons.1 hL
    have q := ih h2
    match hB : B.length with
    | 0 =>
      rw [List.take_zero]
      exact sumA_nonneg h0
    | m + 1 =>
      rw [hB] at q
      have hlen : m < L.length := by have := hs.length_le; omega
      rw [List.take_succ_eq_append_getElem hlen, sumA_append] at q
      simp only [List.take_succ_cons, sumA] at q ⊢
      have := h1 L[m] (List.getElem_mem hlen)
      omega
  | @cons_cons B L a hs ih =>
    intro hL
    obtain ⟨h1, h2⟩ := List.pairwise_cons.1 hL
    have q := ih h2
    simp only [List.length_cons, List.take_succ_cons, sumA]
    omega
theorem take_mono (h0 : ∀ x ∈ al, 0 ≤ x) {i j : Nat} (h : i ≤ j) : sumA al (L.take i) ≤ sumA al (L.take j) := by
  have e : L.take j = L.take i ++ (L.take j).drop i := by
    have := List.take_append_drop i (L.take j)
    rw [List.take_take, Nat.min_eq_left h] at this
    exact this.symm
  rw [e, sumA_append]
  have := sumA_nonneg (l := (L.take j).drop i) h0
  omega
/-- No greater number has room. -/
theorem greedy_most (h0 : ∀ x ∈ al, 0 ≤ x) (hL : Asc al L) (hs : 0 ≤ lim) {B : List Nat} (hB : B.Sublist L) (hb : sumA al B ≤ lim) : B.length ≤ (Mo.takeG al lim L 0).length := by
  obtain ⟨R, e, h1, h2⟩ := takeG_split (al := al) (lim := lim) L 0 hs
  generalize Mo.takeG al lim L 0 = T at *
  rcases h2 with rfl | ⟨k, R', rfl, h3⟩
  · rw [List.append_nil] at e
    subst e
    exact hB.length_le
  · by_cases hlt : B.length ≤ T.length
    · exact hlt
    · have q1 := take_le h0 hB hL
      have q2 := take_mono (L := L) h0 (show T.length + 1 ≤ B.length by omega)
      have e2 : L.take (T.length + 1) = T ++ [k] := by
        rw [e, List.take_append]
        simp [List.take_of_length_le]
      rw [e2, sumA_append] at q2
      simp only [sumA] at q2
      omega
theorem filter_perm {B : List Nat} (hL : L.Nodup) (hB : B.Nodup) (h : ∀ x ∈ B, x ∈ L) : (L.filter fun x => decide (x ∈ B)).Perm B := by
  refine (List.perm_ext_iff_of_nodup (List.Pairwise.filter _ hL) hB).2 fun x => ?_
  rw [List.mem_filter]
  constructor
  · rintro ⟨_, h2⟩
    simpa using h2
  · intro hx
    exact ⟨h x hx, by simpa using hx⟩
theorem greedy_most' (h0 : ∀ x ∈ al, 0 ≤ x) (hL : Asc al L) (hd : L.Nodup) (hs : 0 ≤ lim) {B : List Nat} (hB : B.Nodup) (hm : ∀ x ∈ B, x ∈ L) (hb : sumA al B ≤ lim) : B.length ≤ (Mo.takeG al lim L 0).length := by
  have hp := filter_perm hd hB hm
  rw [← hp.length_eq]
  exact greedy_most h0 hL hs List.filter_sublist (by rw [sumA_perm hp]; exact hb)
end
/-- Choices of places from k on. -/
inductive Ch (n : Nat) : Nat → List Nat → Prop
  | fin : Ch n n []
  | skip {k : Nat} {T : List Nat} : k < n → Ch n (k + 1) T → Ch n k T
  | take {k : Nat} {T : List Nat} : k < n → Ch n (k + 1) T → Ch n k (k :: T)
section
variable {n k : Nat} {T : List Nat} {fs am : List Int} {lim : Int} {f : Nat} {taken : List Int} {force sway : Int} {s : Pu.S}
theorem ch_lt (h : Ch n k T) : (∀ x ∈ T, k ≤ x ∧ x < n) ∧ T.Pairwise (· < ·) := by
  induction h with
  | fin => exact ⟨fun x hx => by simp at hx, List.Pairwise.nil⟩
  | skip hk _ ih => exact ⟨fun x hx => by have := ih.1 x hx; omega, ih.2⟩
  | take hk _ ih =>
    refine ⟨fun x hx => ?_, List.pairwise_cons.2 ⟨fun y hy => by have := ih.1 y hy; omega, ih.2⟩⟩
    rcases List.mem_cons.1 hx with rfl | hx
    · omega
    · have := ih.1 x hx; omega
theorem ch_of (m : Nat) : ∀ k T, n - k = m → k ≤ n → (∀ x ∈ T, k ≤ x ∧ x < n) → T.Pairwise (· < ·) → Ch n k T := by
  induction m with
  | zero =>
    intro k T h hk hx hp
    obtain rfl : k = n := by omega
    match T with
    | [] => exact .fin
    | x :: T => exact absurd (hx x (by simp)) (by omega)
  | succ m ih =>
    intro k T h hk hx hp
    match T with
    | [] => exact .skip (by omega) (ih (k + 1) [] (by omega) (by omega) (fun x hx => by simp at hx) List.Pairwise.nil)
    | x :: T =>
      obtain ⟨h1, h2⟩ := List.pairwise_cons.1 hp
      by_cases e : x = k
      · subst e
        exact .take (by omega) (ih (x + 1) T (by omega) (by omega) (fun y hy => by have := h1 y hy; have := hx y (by simp [hy]); omega) h2)
      · refine .skip (by omega) (ih (k + 1) (x :: T) (by omega) (by omega) (fun y hy => ?_) hp)
        have a := hx y hy
        rcases List.mem_cons.1 hy with rfl | hy
        · omega
        · have := h1 y hy; have := hx x (by simp); omega
theorem sumF_nonneg {l : List Int} (h : ∀ x ∈ l, 0 ≤ x) : 0 ≤ Pu.sumF l := by
  induction l with
  | nil => exact Int.le_refl _
  | cons x l ih => have := h x (by simp); have := ih fun y hy => h y (by simp [hy]); simp only [Pu.sumF]; omega
theorem sumF_drop_ge (h0 : ∀ x ∈ fs, 0 ≤ x) (h : Ch fs.length k T) : sumA fs T ≤ Pu.sumF (fs.drop k) := by
  induction h with
  | fin => rw [List.drop_of_length_le (Nat.le_refl _)]; exact Int.le_refl _
  | @skip k T hk _ ih =>
    rw [List.drop_eq_getElem_cons hk]
    simp only [Pu.sumF]
    have := h0 _ (List.getElem_mem hk)
    omega
  | @take k T hk _ ih =>
    rw [List.drop_eq_getElem_cons hk]
    simp only [Pu.sumF, sumA]
    rw [List.getD_eq_getElem?_getD, List.getElem?_eq_getElem hk]
    simp only [Option.getD_some]
    omega
/-- Entering a node: what it says of a search that was not spent. -/
theorem enter_says {c : Bool} {next : Pu.S → Pu.S} (hm : ∀ s : Pu.S, s.most ≤ (next s).most) (_hsp : ∀ s : Pu.S, s.spent = true → (next s).spent = true) :
    s.most ≤ (Pu.enter c next s).most ∧ (s.spent = true → (Pu.enter c next s).spent = true) ∧ ((Pu.enter c next s).spent = false → c = true → Pu.enter c next s = next { s with left := s.left - 1 }) := by
  cases hc : c
  · rw [Pu.nodeB_no (Pu.node_1 rfl).1, (Pu.node_1 rfl).2]
    exact ⟨Int.le_refl _, id, fun _ h => by cases h⟩
  · cases hs : s.spent
    · by_cases hl : s.left = 0
      · rw [Pu.nodeB_no (Pu.node_3 rfl hs hl).1, (Pu.node_3 rfl hs hl).2]
        exact ⟨Int.le_refl _, fun h => by simp at h, fun h => by simp at h⟩
      · rw [Pu.nodeB_yes (Pu.node_4 rfl hs hl).1, (Pu.node_4 rfl hs hl).2]
        exact ⟨hm { s with left := s.left - 1 }, fun h => (by cases h), fun _ _ => (by rw [hs])⟩
    · rw [Pu.nodeB_no (Pu.node_2 hs).1, (Pu.node_2 hs).2]
      exact ⟨Int.le_refl _, fun _ => hs, fun h => by rw [hs] at h; cases h⟩
theorem look_says : s.most ≤ (Pu.look force taken s).most ∧ force ≤ (Pu.look force taken s).most ∧ (Pu.look force taken s).spent = s.spent := by
  unfold Pu.look
  split
  · exact ⟨by simp only; omega, by simp only; omega, rfl⟩
  · exact ⟨Int.le_refl _, by omega, rfl⟩
theorem pull_mono : ∀ (f k : Nat) (taken : List Int) (force sway : Int) (s : Pu.S), s.most ≤ (Pu.pull fs am lim f k taken force sway s).most ∧ (s.spent = true → (Pu.pull fs am lim f k taken force sway s).spent = true) := by
  intro f
  induction f with
  | zero => intro k taken force sway s; exact ⟨Int.le_refl _, id⟩
  | succ f ih =>
    intro k taken force sway s
    by_cases hk : k = fs.length
    · rw [Pu.pull_end hk]
      exact ⟨look_says.1, fun h => by rw [look_says.2.2]; exact h⟩
    · rw [Pu.pull_goes hk]
      have h1 := enter_says (next := Pu.pull fs am lim f (k + 1) (taken ++ [(k : Int)]) (force + fs.getD k 0) (sway + am.getD k 0)) (s := s) (c := decide (sway + am.getD k 0 ≤ lim) && decide (s.most < force + fs.getD k 0 + Pu.rest fs k)) (fun s => (ih (k + 1) (taken ++ [(k : Int)]) (force + fs.getD k 0) (sway + am.getD k 0) s).1) (fun s => (ih (k + 1) (taken ++ [(k : Int)]) (force + fs.getD k 0) (sway + am.getD k 0) s).2)
      have h2 := enter_says (next := Pu.pull fs am lim f (k + 1) taken force sway) (s := Pu.one fs am lim f k taken force sway s) (c := decide ((Pu.one fs am lim f k taken force sway s).most < force + Pu.rest fs k)) (fun s => (ih (k + 1) taken force sway s).1) (fun s => (ih (k + 1) taken force sway s).2)
      exact ⟨Int.le_trans h1.1 h2.1, fun h => h2.2.1 (h1.2.1 h)⟩
/-- The search finds the greatest force when it was not spent. -/
theorem pull_best (hf : ∀ x ∈ fs, 0 ≤ x) (ha : ∀ x ∈ am, 0 ≤ x) : ∀ (f k : Nat) (taken : List Int) (force sway : Int) (s : Pu.S), fs.length < f + k → k ≤ fs.length → (Pu.pull fs am lim f k taken force sway s).spent = false →
    ∀ T, Ch fs.length k T → sway + sumA am T ≤ lim → force + sumA fs T ≤ (Pu.pull fs am lim f k taken force sway s).most := by
  intro f
  induction f with
  | zero => intro k taken force sway s h1 h2; omega
  | succ f ih =>
    intro k taken force sway s h1 h2 hsp T hT hl
    by_cases hk : k = fs.length
    · rw [Pu.pull_end hk]
      have := look_says (force := force) (taken := taken) (s := s)
      cases hT with
      | fin => simp only [sumA]; omega
      | skip h => omega
      | take h => omega
    · rw [Pu.pull_goes hk] at hsp ⊢
      have hs2 := enter_says (next := Pu.pull fs am lim f (k + 1) taken force sway) (s := Pu.one fs am lim f k taken force sway s) (c := decide ((Pu.one fs am lim f k taken force sway s).most < force + Pu.rest fs k)) (fun s => (pull_mono (fs := fs) (am := am) (lim := lim) f (k + 1) taken force sway s).1) (fun s => (pull_mono (fs := fs) (am := am) (lim := lim) f (k + 1) taken force sway s).2)
      have hs1 := enter_says (next := Pu.pull fs am lim f (k + 1) (taken ++ [(k : Int)]) (force + fs.getD k 0) (sway + am.getD k 0)) (s := s) (c := decide (sway + am.getD k 0 ≤ lim) && decide (s.most < force + fs.getD k 0 + Pu.rest fs k)) (fun s => (pull_mono (fs := fs) (am := am) (lim := lim) f (k + 1) (taken ++ [(k : Int)]) (force + fs.getD k 0) (sway + am.getD k 0) s).1) (fun s => (pull_mono (fs := fs) (am := am) (lim := lim) f (k + 1) (taken ++ [(k : Int)]) (force + fs.getD k 0) (sway + am.getD k 0) s).2)
      have ho : (Pu.one fs am lim f k taken force sway s).spent = false := by
        cases e : (Pu.one fs am lim f k taken force sway s).spent
        · rfl
        · rw [hs2.2.1 e] at hsp; cases hsp
      cases hT with
      | fin => exact absurd rfl hk
      | skip hk2 hT2 =>
        have hb := sumF_drop_ge hf hT2
        by_cases hc : (Pu.one fs am lim f k taken force sway s).most < force + Pu.rest fs k
        · have e := hs2.2.2 hsp (by simpa using hc)
          rw [e] at hsp ⊢
          exact ih (k + 1) taken force sway _ (by omega) (by omega) hsp T hT2 hl
        · have := hs2.1
          have hrest : Pu.rest fs k = Pu.sumF (fs.drop (k + 1)) := rfl
          omega
      | @take _ T2 hk2 hT2 =>
        have hb := sumF_drop_ge hf hT2
        simp only [sumA] at hl ⊢
        have hn := sumA_nonneg (l := T2) ha
        by_cases hc : s.most < force + fs.getD k 0 + Pu.rest fs k
        · have e := hs1.2.2 ho (by rw [Bool.and_eq_true]; exact ⟨by simp only [decide_eq_true_eq]; omega, by simpa using hc⟩)
          have h1e : Pu.one fs am lim f k taken force sway s = Pu.pull fs am lim f (k + 1) (taken ++ [(k : Int)]) (force + fs.getD k 0) (sway + am.getD k 0) { s with left := s.left - 1 } := e
          have q := ih (k + 1) (taken ++ [(k : Int)]) (force + fs.getD k 0) (sway + am.getD k 0) { s with left := s.left - 1 } (by omega) (by omega) (by rw [← h1e]; exact ho) T2 hT2 (by omega)
          rw [← h1e] at q
          have := hs2.1
          omega
        · have a := hs1.1
          have b := hs2.1
          have hrest : Pu.rest fs k = Pu.sumF (fs.drop (k + 1)) := rfl
          have a2 : s.most ≤ (Pu.one fs am lim f k taken force sway s).most := a
          omega
/-- What the search holds is a choice that has room. -/
def Good (fs am : List Int) (lim : Int) (n k : Nat) (taken : List Int) (force sway : Int) (s s' : Pu.S) : Prop := (s'.most = s.most ∧ s'.best = s.best) ∨ ∃ T, Ch n k T ∧ sway + sumA am T ≤ lim ∧ s'.most = force + sumA fs T ∧ s'.best = taken ++ T.map fun k : Nat => (k : Int)
theorem enter_good {c : Bool} {next : Pu.S → Pu.S} {P : Pu.S → Pu.S → Prop} (hr : ∀ s s' : Pu.S, s'.most = s.most → s'.best = s.best → P s s') (hc : ∀ s s2 s' : Pu.S, s2.most = s.most → s2.best = s.best → P s2 s' → P s s') (hn : c = true → ∀ s : Pu.S, P s (next s)) : P s (Pu.enter c next s) := by
  cases hcc : c
  · rw [Pu.nodeB_no (Pu.node_1 rfl).1, (Pu.node_1 rfl).2]
    exact hr _ _ rfl rfl
  · cases hs : s.spent
    · by_cases hl : s.left = 0
      · rw [Pu.nodeB_no (Pu.node_3 rfl hs hl).1, (Pu.node_3 rfl hs hl).2]
        exact hr _ _ rfl rfl
      · rw [Pu.nodeB_yes (Pu.node_4 rfl hs hl).1, (Pu.node_4 rfl hs hl).2]
        exact hc s { s with left := s.left - 1 } _ rfl rfl (hn hcc _)
    · rw [Pu.nodeB_no (Pu.node_2 hs).1, (Pu.node_2 hs).2]
      exact hr _ _ rfl rfl
theorem pull_good : ∀ (f k : Nat) (taken : List Int) (force sway : Int) (s : Pu.S), k ≤ fs.length → sway ≤ lim → Good fs am lim fs.length k taken force sway s (Pu.pull fs am lim f k taken force sway s) := by
  intro f
  induction f with
  | zero => intro k taken force sway s _ _; exact .inl ⟨rfl, rfl⟩
  | succ f ih =>
    intro k taken force sway s hk hsw
    by_cases hkn : k = fs.length
    · rw [Pu.pull_end hkn]
      unfold Pu.look
      split
      · exact .inr ⟨[], by rw [hkn]; exact .fin, by simp only [sumA]; omega, by simp [sumA], by simp⟩
      · exact .inl ⟨rfl, rfl⟩
    · rw [Pu.pull_goes hkn]
      have hone : Good fs am lim fs.length k taken force sway s (Pu.one fs am lim f k taken force sway s) := by
        refine enter_good (P := Good fs am lim fs.length k taken force sway) (fun s s' h1 h2 => .inl ⟨h1, h2⟩) (fun s s2 s' h1 h2 h => ?_) (fun hc s => ?_)
        · rcases h with ⟨a, b⟩ | h
          · exact .inl ⟨a.trans h1, b.trans h2⟩
          · exact .inr h
        · rw [Bool.and_eq_true] at hc
          have h1 : sway + am.getD k 0 ≤ lim := by simpa using hc.1
          rcases ih (k + 1) (taken ++ [(k : Int)]) (force + fs.getD k 0) (sway + am.getD k 0) s (by omega) h1 with h | ⟨T, hT, a, b, d⟩
          · exact .inl h
          · exact .inr ⟨k :: T, .take (by omega) hT, by simp only [sumA]; omega, by simp only [sumA]; omega, by rw [d]; simp⟩
      have htwo : Good fs am lim fs.length k taken force sway (Pu.one fs am lim f k taken force sway s) (Pu.enter (decide ((Pu.one fs am lim f k taken force sway s).most < force + Pu.rest fs k)) (Pu.pull fs am lim f (k + 1) taken force sway) (Pu.one fs am lim f k taken force sway s)) := by
        refine enter_good (P := Good fs am lim fs.length k taken force sway) (fun s s' h1 h2 => .inl ⟨h1, h2⟩) (fun s s2 s' h1 h2 h => ?_) (fun _ s => ?_)
        · rcases h with ⟨a, b⟩ | h
          · exact .inl ⟨a.trans h1, b.trans h2⟩
          · exact .inr h
        · rcases ih (k + 1) taken force sway s (by omega) hsw with h | ⟨T, hT, a, b, d⟩
          · exact .inl h
          · exact .inr ⟨T, .skip (by omega) hT, a, b, d⟩
      rcases htwo with ⟨a, b⟩ | h
      · rcases hone with ⟨a2, b2⟩ | ⟨T, hT, c1, c2, c3⟩
        · exact .inl ⟨a.trans a2, b.trans b2⟩
        · exact .inr ⟨T, hT, c1, a.trans c2, b.trans c3⟩
      · exact .inr h
/-- The whole search. -/
theorem search_says (hf : ∀ x ∈ fs, 0 ≤ x) (ha : ∀ x ∈ am, 0 ≤ x) (hl : 0 ≤ lim) {bud : Int} (hs : (Pu.pull fs am lim (fs.length + 1) 0 [] 0 0 ⟨bud, false, -1, []⟩).spent = false) :
    ∃ T, Ch fs.length 0 T ∧ sumA am T ≤ lim ∧ (Pu.pull fs am lim (fs.length + 1) 0 [] 0 0 ⟨bud, false, -1, []⟩).most = sumA fs T ∧ (Pu.pull fs am lim (fs.length + 1) 0 [] 0 0 ⟨bud, false, -1, []⟩).best = (T.map fun k : Nat => (k : Int)) ∧ ∀ T2, Ch fs.length 0 T2 → sumA am T2 ≤ lim → sumA fs T2 ≤ sumA fs T := by
  have hb := fun T hT h => pull_best (lim := lim) hf ha (fs.length + 1) 0 [] 0 0 ⟨bud, false, -1, []⟩ (by omega) (by omega) hs T hT h
  have hg := pull_good (fs := fs) (am := am) (lim := lim) (fs.length + 1) 0 [] 0 0 ⟨bud, false, -1, []⟩ (by omega) hl
  have h0 := hb [] (ch_of fs.length 0 [] (by omega) (by omega) (fun x hx => by simp at hx) List.Pairwise.nil) (by simp only [sumA]; omega)
  rcases hg with ⟨a, _⟩ | ⟨T, hT, a, b, d⟩
  · rw [a] at h0
    simp [sumA] at h0
  · refine ⟨T, hT, by omega, by omega, by simpa using d, fun T2 h1 h2 => ?_⟩
    have := hb T2 h1 (by omega)
    omega
end
end Go.Proofs.Ytjklhacffdhgaaa.Pm
