/- Plain laws of beams: both ends carry all, no moment is greater than the greatest one, a further load lessens nothing, a beam's text is read back. -/
import Derived.Test.YtajodbhbmfjmjaaGreatDoorMono
import Derived.Test.YtajodbhbmfjmjaaGreatDoorFrA
import Derived.Test.YtajodbhbmfjmjaaGreatDoorBeamW
namespace Go.Proofs.YtajodbhbmfjmjaaGreatDoor
open Go.RowKit Go.Lib

theorem mT_left {span x : Int} {l : LoadR} (h : x ≤ l.at_) : mTerm span x l = l.wt * (span - l.at_) * x := by
  unfold mTerm
  rw [if_neg (by omega)]
theorem mT_right {span x : Int} {l : LoadR} (h : l.at_ ≤ x) : mTerm span x l = l.wt * l.at_ * (span - x) := by
  unfold mTerm
  split
  · rw [Int.mul_sub, Int.mul_sub, Int.sub_mul, Int.sub_mul, Int.mul_sub, Int.mul_right_comm l.wt span x]
    omega
  · have e : x = l.at_ := by omega
    subst e
    rw [Int.mul_right_comm]
theorem sumB_zero {f : LoadR → Int} : ∀ {ls : List LoadR}, (∀ l ∈ ls, f l = 0) → sumB f ls = 0
  | [], _ => rfl
  | x :: xs, h => by
    have a := h x (by simp)
    have b := sumB_zero (f := f) (ls := xs) fun y hy => h y (by simp [hy])
    simp only [sumB]; omega
theorem sumB_le {f g : LoadR → Int} : ∀ {ls : List LoadR}, (∀ l ∈ ls, f l ≤ g l) → sumB f ls ≤ sumB g ls
  | [], _ => Int.le_refl _
  | x :: xs, h => by
    have a := h x (by simp)
    have b := sumB_le (f := f) (g := g) (ls := xs) fun y hy => h y (by simp [hy])
    simp only [sumB]; omega
theorem sumB_mul {f : LoadR → Int} (k : Int) : ∀ ls : List LoadR, sumB (fun l => k * f l) ls = k * sumB f ls
  | [] => by simp [sumB]
  | x :: xs => by simp only [sumB, sumB_mul k xs, Int.mul_add]
theorem sumB_add {f g : LoadR → Int} : ∀ ls : List LoadR, sumB (fun l => f l + g l) ls = sumB f ls + sumB g ls
  | [] => by simp [sumB]
  | x :: xs => by simp only [sumB, sumB_add xs]; omega
theorem sumB_congr {f g : LoadR → Int} : ∀ {ls : List LoadR}, (∀ l ∈ ls, f l = g l) → sumB f ls = sumB g ls
  | [], _ => rfl
  | x :: xs, h => by simp only [sumB]; rw [h x (by simp), sumB_congr fun y hy => h y (by simp [hy])]
theorem momB_zero {span : Int} {ls : List LoadR} (h : ∀ l ∈ ls, 0 ≤ l.at_) : momB span 0 ls = 0 := sumB_zero fun l hl => by rw [mT_left (h l hl), Int.mul_zero]
theorem momB_span {span : Int} {ls : List LoadR} (h : ∀ l ∈ ls, l.at_ ≤ span) : momB span span ls = 0 := sumB_zero fun l hl => by rw [mT_right (h l hl), Int.sub_self, Int.mul_zero]
theorem lin_mul {K a b c d e f : Int} (h : a * b = c * d + e * f) : a * (K * b) = c * (K * d) + e * (K * f) := by
  rw [Int.mul_left_comm, h, Int.mul_add, Int.mul_left_comm K c, Int.mul_left_comm K e]
/-- Between two places without a load between them the moment is linear. -/
theorem momB_lin {span p q x : Int} {ls : List LoadR} (hp : p ≤ x) (hq : x ≤ q) (h : ∀ l ∈ ls, l.at_ ≤ p ∨ q ≤ l.at_) : (q - p) * momB span x ls = (q - x) * momB span p ls + (x - p) * momB span q ls := by
  unfold momB
  rw [← sumB_mul, ← sumB_mul, ← sumB_mul, ← sumB_add]
  refine sumB_congr fun l hl => ?_
  rcases h l hl with hl | hl
  · rw [mT_right (by omega), mT_right hl, mT_right (by omega)]
    refine lin_mul ?_
    simp only [Int.sub_mul, Int.mul_sub]
    rw [Int.mul_comm x q, Int.mul_comm x p, Int.mul_comm q p]
    omega
  · rw [mT_left (by omega), mT_left (by omega), mT_left hl]
    refine lin_mul ?_
    simp only [Int.sub_mul]
    rw [Int.mul_comm x p, Int.mul_comm x q, Int.mul_comm q p]
    omega
theorem gm_ge {span : Int} {ls : List LoadR} : ∀ (xs : List LoadR) (p : Int × Int), p.2 ≤ (xs.foldl (gmStep span ls) p).2 ∧ ∀ x ∈ xs, momB span x.at_ ls ≤ (xs.foldl (gmStep span ls) p).2
  | [], p => ⟨Int.le_refl _, fun x h => by simp at h⟩
  | y :: xs, p => by
    obtain ⟨a, b⟩ := gm_ge (span := span) (ls := ls) xs (gmStep span ls p y)
    have c : p.2 ≤ (gmStep span ls p y).2 ∧ momB span y.at_ ls ≤ (gmStep span ls p y).2 := by unfold gmStep; split <;> simp <;> omega
    rw [List.foldl_cons]
    refine ⟨by omega, fun x hx => ?_⟩
    rcases List.mem_cons.1 hx with rfl | hx
    · omega
    · exact b x hx
theorem gm_le {span G : Int} {ls : List LoadR} : ∀ (xs : List LoadR) (p : Int × Int), p.2 ≤ G → (∀ x ∈ xs, momB span x.at_ ls ≤ G) → (xs.foldl (gmStep span ls) p).2 ≤ G
  | [], p, h, _ => h
  | y :: xs, p, h, hx => by
    rw [List.foldl_cons]
    refine gm_le xs _ ?_ fun x h => hx x (by simp [h])
    unfold gmStep
    split
    · exact hx y (by simp)
    · exact h
theorem last_le (x : Int) : ∀ ls : List LoadR, (∀ l ∈ ls, 0 ≤ l.at_) → 0 ≤ x → ∃ p, (p = 0 ∨ ∃ l ∈ ls, l.at_ = p) ∧ 0 ≤ p ∧ p ≤ x ∧ ∀ l ∈ ls, l.at_ ≤ p ∨ x < l.at_
  | [], _, h => ⟨0, .inl rfl, Int.le_refl _, h, fun l hl => by simp at hl⟩
  | y :: ls, h, hx => by
    obtain ⟨p, h1, h2, h3, h4⟩ := last_le x ls (fun l hl => h l (by simp [hl])) hx
    have hy := h y (by simp)
    by_cases hc : p < y.at_ ∧ y.at_ ≤ x
    · refine ⟨y.at_, .inr ⟨y, by simp, rfl⟩, hy, hc.2, fun l hl => ?_⟩
      rcases List.mem_cons.1 hl with rfl | hl
      · exact .inl (Int.le_refl _)
      · rcases h4 l hl with a | a
        · exact .inl (by omega)
        · exact .inr a
    · refine ⟨p, ?_, h2, h3, fun l hl => ?_⟩
      · rcases h1 with e | ⟨l, hl, e⟩
        · exact .inl e
        · exact .inr ⟨l, by simp [hl], e⟩
      · rcases List.mem_cons.1 hl with rfl | hl
        · omega
        · exact h4 l hl
theorem first_ge (x span : Int) : ∀ ls : List LoadR, (∀ l ∈ ls, l.at_ ≤ span) → x ≤ span → ∃ q, (q = span ∨ ∃ l ∈ ls, l.at_ = q) ∧ q ≤ span ∧ x ≤ q ∧ ∀ l ∈ ls, q ≤ l.at_ ∨ l.at_ < x
  | [], _, h => ⟨span, .inl rfl, Int.le_refl _, h, fun l hl => by simp at hl⟩
  | y :: ls, h, hx => by
    obtain ⟨q, h1, h2, h3, h4⟩ := first_ge x span ls (fun l hl => h l (by simp [hl])) hx
    have hy := h y (by simp)
    by_cases hc : y.at_ < q ∧ x ≤ y.at_
    · refine ⟨y.at_, .inr ⟨y, by simp, rfl⟩, hy, hc.2, fun l hl => ?_⟩
      rcases List.mem_cons.1 hl with rfl | hl
      · exact .inl (Int.le_refl _)
      · rcases h4 l hl with a | a
        · exact .inl (by omega)
        · exact .inr a
    · refine ⟨q, ?_, h2, h3, fun l hl => ?_⟩
      · rcases h1 with e | ⟨l, hl, e⟩
        · exact .inl e
        · exact .inr ⟨l, by simp [hl], e⟩
      · rcases List.mem_cons.1 hl with rfl | hl
        · omega
        · exact h4 l hl
/-- No moment is greater than the greatest one. -/
theorem momB_max {span wd dp wood x : Int} {ls : List LoadR} (hg : GoodB span wd dp wood ls) (x0 : 0 ≤ x) (x1 : x ≤ span) : momB span x ls ≤ (gmB span ls ls).2 := by
  have ha : ∀ l ∈ ls, 0 ≤ l.at_ := fun l hl => (hg.l l hl).1.1
  have hb : ∀ l ∈ ls, l.at_ ≤ span := fun l hl => (hg.l l hl).1.2
  have hG := gm_ge (span := span) (ls := ls) ls (0, 0)
  have hG0 : 0 ≤ (gmB span ls ls).2 := hG.1
  have hG1 : ∀ l ∈ ls, momB span l.at_ ls ≤ (gmB span ls ls).2 := hG.2
  obtain ⟨p, p1, p2, p3, p4⟩ := last_le x ls ha x0
  obtain ⟨q, q1, q2, q3, q4⟩ := first_ge x span ls hb x1
  have mp : momB span p ls ≤ (gmB span ls ls).2 := by
    rcases p1 with rfl | ⟨l, hl, rfl⟩
    · rw [momB_zero ha]; exact hG0
    · exact hG1 l hl
  have mq : momB span q ls ≤ (gmB span ls ls).2 := by
    rcases q1 with rfl | ⟨l, hl, rfl⟩
    · rw [momB_span hb]; exact hG0
    · exact hG1 l hl
  by_cases hpq : p = q
  · have : x = p := by omega
    rw [this]; exact mp
  · have e := momB_lin (span := span) (p := p) (q := q) (x := x) (ls := ls) p3 q3 fun l hl => by
      rcases p4 l hl with a | a
      · exact .inl a
      · rcases q4 l hl with b | b
        · exact .inr b
        · omega
    have a := Int.mul_le_mul_of_nonneg_left mp (show 0 ≤ q - x by omega)
    have b := Int.mul_le_mul_of_nonneg_left mq (show 0 ≤ x - p by omega)
    have c : (q - x) * (gmB span ls ls).2 + (x - p) * (gmB span ls ls).2 = (q - p) * (gmB span ls ls).2 := by rw [← Int.add_mul]; congr 1; omega
    refine Int.le_of_mul_le_mul_left (a := q - p) ?_ (by omega)
    omega
theorem sumB_ins (f : LoadR → Int) (ls : List LoadR) (i : Nat) (x : LoadR) : sumB f (insL ls i x) = sumB f ls + f x := by
  unfold insL
  rw [sumB_append, sumB_append]
  have e := sumB_append f (ls.take i) (ls.drop i)
  rw [List.take_append_drop] at e
  simp only [sumB]
  omega
theorem mem_ins {ls : List LoadR} {i : Nat} {x y : LoadR} : y ∈ insL ls i x ↔ y = x ∨ y ∈ ls := by
  unfold insL
  constructor
  · intro h
    simp only [List.mem_append, List.mem_singleton] at h
    rcases h with (h | h) | h
    · exact .inr (List.mem_of_mem_take h)
    · exact .inl h
    · exact .inr (List.mem_of_mem_drop h)
  · intro h
    simp only [List.mem_append, List.mem_singleton]
    rcases h with h | h
    · exact .inl (.inr h)
    · rw [← List.take_append_drop i ls, List.mem_append] at h
      rcases h with h | h
      · exact .inl (.inl h)
      · exact .inr h
theorem posL_cons (x : LoadR) (ls : List LoadR) (a : Int) : posL (x :: ls) a = if x.at_ ≤ a then posL ls a + 1 else 0 := by
  unfold posL
  by_cases h : x.at_ ≤ a
  · rw [List.takeWhile_cons_of_pos (by simpa using h), if_pos h, List.length_cons]
  · rw [List.takeWhile_cons_of_neg (by simpa using h), if_neg h]; rfl
theorem posL_bef {a : Int} : ∀ (ls : List LoadR) (j : Nat) (hj : j < ls.length), j < posL ls a → ls[j].at_ ≤ a
  | [], j, hj, _ => by simp at hj
  | x :: ls, j, hj, h => by
    rw [posL_cons] at h
    split at h
    · rename_i hx
      cases j with
      | zero => exact hx
      | succ j => exact posL_bef ls j (by simpa using hj) (by omega)
    · omega
theorem posL_aft {a : Int} : ∀ (ls : List LoadR) (k : Nat) (hk : k < ls.length), k = posL ls a → a < ls[k].at_
  | [], k, hk, _ => by simp at hk
  | x :: ls, k, hk, h => by
    rw [posL_cons] at h
    split at h
    · subst h
      exact posL_aft ls _ (by simpa using hk) rfl
    · subst h
      simp only [List.getElem_cons_zero]
      omega
theorem ins_lt {ls : List LoadR} {i k : Nat} {x : LoadR} (hi : i ≤ ls.length) (hk : k < i) (h : k < (insL ls i x).length) : (insL ls i x)[k] = ls[k]'(by omega) := by
  unfold insL at h ⊢
  rw [List.getElem_append_left (by simp; omega), List.getElem_append_left (by simp; omega), List.getElem_take]
theorem ins_eq {ls : List LoadR} {i : Nat} {x : LoadR} (hi : i ≤ ls.length) (h : i < (insL ls i x).length) : (insL ls i x)[i] = x := by
  unfold insL at h ⊢
  rw [List.getElem_append_left (by simp; omega), List.getElem_append_right (by simp; omega)]
  simp
theorem ins_gt {ls : List LoadR} {i k : Nat} {x : LoadR} (hi : i ≤ ls.length) (hk : i < k) (h : k < (insL ls i x).length) (h2 : k - 1 < ls.length) : (insL ls i x)[k] = ls[k - 1] := by
  unfold insL at h ⊢
  rw [List.getElem_append_right (by simp; omega), List.getElem_drop]
  have e : i + (k - (List.take i ls ++ [x]).length) = k - 1 := by simp; omega
  simp only [e]
/-- A beam with a further load is valid. -/
theorem vBeam_insAt {i : Nat} {nm : ByteArray} {span wd dp wood a t : Int} {ls : List LoadR} (h : vBeam nm span wd dp wood ls = true) (hl : ldOk span a t = true) (hn : ls.length < 8) (hp : i ≤ ls.length) (hbef : ∀ (j : Nat) (hj : j < ls.length), j < i → ls[j].at_ ≤ a) (haft : ∀ (k : Nat) (hk : k < ls.length), k = i → a < ls[k].at_) : vBeam nm span wd dp wood (insL ls i ⟨a, t⟩) = true := by
  obtain ⟨v1, ⟨v2, v3⟩, ⟨v4, v5⟩, ⟨v6, v7⟩, ⟨v8, v9⟩, v10, -, v11⟩ := vBeam_true h
  have hb : bmB nm span wd dp wood = true := by unfold bmB; rw [v1, inB_mk v2 v3, inB_mk v4 v5, inB_mk v6 v7, inB_mk v8 v9]; rfl
  have hlen := insL_len hp ⟨a, t⟩
  have hso : ∀ k (hk : k < ls.length) (h0 : 0 < k), (ls[k - 1]'(by omega)).at_ ≤ ls[k].at_ := fun k hk h0 => by
    have q := v11 k
    by_cases hc : ls[k].at_ < (ls[k - 1]'(by omega)).at_
    · exact absurd ⟨hk, .inr ⟨h0, hc⟩⟩ q
    · omega
  have hlo : ∀ x ∈ ls, ldOk span x.at_ x.wt = true := fun x hx => by
    obtain ⟨a1, a2⟩ := v10 x hx
    unfold ldOk
    rw [inB_mk a1.1 a1.2, inB_mk a2.1 a2.2]; rfl
  rw [vBeam_fin hb fun k hk => ?_]
  · simp; omega
  · rintro ⟨_, e | ⟨h0, e⟩⟩
    · rcases mem_ins.1 (List.getElem_mem hk) with q | q
      · rw [q, hl] at e; cases e
      · rw [hlo _ q] at e; cases e
    · rcases Nat.lt_trichotomy k i with hk1 | hk1 | hk1
      · rw [ins_lt hp hk1, ins_lt hp (by omega)] at e
        have := hso k (by omega) h0
        omega
      · subst hk1
        rw [ins_eq hp, ins_lt hp (by omega)] at e
        have := hbef (k - 1) (by omega) (by omega)
        simp only at e
        omega
      · by_cases hk2 : k = i + 1
        · subst hk2
          rw [ins_gt hp hk1 hk (by omega)] at e
          simp only [Nat.add_sub_cancel] at e
          rw [ins_eq hp] at e
          have := haft i (by omega) rfl
          simp only at e
          omega
        · rw [ins_gt hp hk1 hk (by omega), ins_gt hp (by omega) (by omega) (by omega)] at e
          have := hso (k - 1) (by omega) (by omega)
          omega
theorem vBeam_ins {nm : ByteArray} {span wd dp wood a t : Int} {ls : List LoadR} (h : vBeam nm span wd dp wood ls = true) (hl : ldOk span a t = true) (hn : ls.length < 8) : vBeam nm span wd dp wood (insL ls (posL ls a) ⟨a, t⟩) = true :=
  vBeam_insAt h hl hn (posL_le ls a) (posL_bef ls) (posL_aft ls)
theorem name_blank {l : List UInt8} (h : nameB l = true) : (32 : UInt8) ∉ l := by
  unfold nameB at h
  obtain ⟨_, _, h⟩ := of_decide_eq_true h
  intro hm
  obtain ⟨j, hj, e⟩ := List.getElem_of_mem hm
  have q := h j hj
  rw [List.getD_eq_getElem?_getD, List.getElem?_eq_getElem hj, e] at q
  rcases q with q | ⟨_, q⟩ <;> exact absurd q (by decide)
/-- A further load lessens nothing. -/
theorem gm_ins {span wd dp wood : Int} {ls : List LoadR} {x : LoadR} {i : Nat} (hg : GoodB span wd dp wood ls) (hx : (0 ≤ x.at_ ∧ x.at_ ≤ span) ∧ 1 ≤ x.wt ∧ x.wt ≤ 200000) : (∀ p, 0 ≤ p → p ≤ span → momB span p ls ≤ momB span p (insL ls i x)) ∧ (gmB span ls ls).2 ≤ (gmB span (insL ls i x) (insL ls i x)).2 := by
  have h1 : ∀ p, 0 ≤ p → p ≤ span → momB span p ls ≤ momB span p (insL ls i x) := fun p p0 p1 => by
    unfold momB
    rw [sumB_ins]
    have := mTerm_bd hg.s2 p0 p1 hx
    omega
  have q := gm_ge (span := span) (ls := insL ls i x) (insL ls i x) (0, 0)
  refine ⟨h1, gm_le ls (0, 0) q.1 fun y hy => ?_⟩
  have hy2 := (hg.l y hy).1
  exact Int.le_trans (h1 _ hy2.1 hy2.2) (q.2 y (mem_ins.2 (.inr hy)))
theorem stress_ins {span wd dp wood : Int} {ls : List LoadR} {x : LoadR} {i : Nat} (hg : GoodB span wd dp wood ls) (hx : (0 ≤ x.at_ ∧ x.at_ ≤ span) ∧ 1 ≤ x.wt ∧ x.wt ≤ 200000) : stressB span wd dp ls ≤ stressB span wd dp (insL ls i x) := by
  have s1 := hg.s1
  have w1 := hg.w1
  have d1 := hg.d1
  have q := (gm_ins (i := i) hg hx).2
  have p : 0 < wd * dp * dp := Int.mul_pos (Int.mul_pos (by omega) (by omega)) (by omega)
  unfold stressB
  exact Pl.nr_mono p (Int.mul_le_mul_of_nonneg_left (Pl.nr_mono (by omega) q) (by omega))
theorem bend_ins {span wd dp wood : Int} {ls : List LoadR} {x : LoadR} {i : Nat} (hg : GoodB span wd dp wood ls) (hx : (0 ≤ x.at_ ∧ x.at_ ≤ span) ∧ 1 ≤ x.wt ∧ x.wt ≤ 200000) : bendB span wd dp wood ls ≤ bendB span wd dp wood (insL ls i x) := by
  have d := depth_bd hg.w1 hg.w2 hg.d1 hg.d2 hg.o1 hg.o2
  unfold bendB
  refine Pl.nr_mono (by omega) ?_
  rw [sumB_ins]
  have := (bTerm_bd hg.s1 hg.s2 hx).1
  omega
/-- What both ends carry. -/
theorem react_say {span wd dp wood : Int} {ls : List LoadR} (hg : GoodB span wd dp wood ls) : 0 ≤ Pl.nr (sumB (fun l => l.wt * l.at_) ls) span ∧ Pl.nr (sumB (fun l => l.wt * l.at_) ls) span ≤ sumB (·.wt) ls := by
  have s1 := hg.s1
  have h0 : 0 ≤ sumB (fun l => l.wt * l.at_) ls := sumB_nonneg fun l hl => (wa_bd hg.s2 (hg.l l hl)).1
  have hw : 0 ≤ sumB (·.wt) ls := sumB_nonneg fun l hl => by have := hg.l l hl; omega
  have h1 : sumB (fun l => l.wt * l.at_) ls ≤ span * sumB (·.wt) ls := by
    rw [← sumB_mul]
    refine sumB_le fun l hl => ?_
    have q := hg.l l hl
    rw [Int.mul_comm span]
    exact Int.mul_le_mul_of_nonneg_left q.1.2 (by omega)
  refine ⟨Pl.nr_nonneg h0 (by omega), Pl.nr_le (by omega) ?_ hw⟩
  rw [Int.mul_assoc]
  omega
/-- A beam's text is read back. -/
theorem readB_back {nm : ByteArray} {span wd dp wood : Int} {ls : List LoadR} (h : vBeam nm span wd dp wood ls = true) : oBeam (txBeam nm span wd dp wood ls).data.toList = some ⟨nm, span, wd, dp, wood, ls⟩ := by
  have hq := vBeam_true h
  have hvv := vBeam_vals h
  have ht : (txBeam nm span wd dp wood ls).data.toList = Lib.join (nm.data.toList :: rowText [span, wd, dp, wood] :: ls.map ldW) [32] := by
    unfold txBeam
    rw [if_pos h]
    show bmW nm [span, wd, dp, wood] ls ls.length = _
    unfold bmW
    rw [List.take_length]
  have hsp := split_join (c := 32) (nm.data.toList :: rowText [span, wd, dp, wood] :: ls.map ldW) (by simp) (by
    intro y hy
    rcases List.mem_cons.1 hy with rfl | hy
    · exact name_blank hq.1
    rcases List.mem_cons.1 hy with rfl | hy
    · exact rowText_blank _
    · obtain ⟨x, _, rfl⟩ := List.mem_map.1 hy
      exact ldW_blank x)
  rw [← ht] at hsp
  have hvl : ([span, wd, dp, wood] : List Int).all isVal = true := by
    rw [List.all_eq_true]
    intro x hx
    have := hvv.2.1 x hx
    unfold isVal
    simp
    omega
  have hr : rowText [span, wd, dp, wood] = Lib.join ([span, wd, dp, wood].map itoa) [44] := by unfold rowText; rw [if_neg (by simp)]
  have hs : splitL 44 (rowText [span, wd, dp, wood]) = [span, wd, dp, wood].map itoa := by
    rw [hr]
    exact split_join _ (by simp) (fun y hy => by
      rw [List.mem_map] at hy
      obtain ⟨x, _, rfl⟩ := hy
      exact itoa_comma x)
  have hne : rowText [span, wd, dp, wood] ≠ [45] := fun e => join_minus (xs := [span, wd, dp, wood]) (by rw [← hr]; exact e)
  have hl : listO (rowText [span, wd, dp, wood]) = some [span, wd, dp, wood] := by
    unfold listO
    rw [if_neg hne, hs, if_neg (by simp)]
    exact (allO_vals _ _).2 ⟨rfl, hvl⟩
  rw [oBeam_loads hsp hl, allO_ldW (fun x hx => by have := hq.2.2.2.2.2.1 x hx; omega)]
  simp only
  have hb : (⟨nm.data.toList.toArray⟩ : ByteArray) = nm := by cases nm; simp
  rw [hb, if_pos h]
end Go.Proofs.YtajodbhbmfjmjaaGreatDoor
