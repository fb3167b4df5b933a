/- Permitted swings: what the answers say of lists of swings. -/
import Derived.Test.YtjklhacffdhgaaaPmS
import Derived.Test.YtjklhacffdhgaaaPuR
import Derived.Test.YtjklhacffdhgaaaMoX
namespace Go.Proofs.Ytjklhacffdhgaaa
open Go.RowKit

/-- The swings at some places. -/
def selS (xs : List SwingR) (l : List Nat) : List SwingR := l.map fun k => xs.getD k ⟨ByteArray.empty, 0, 0⟩
/-- Rising places within a list. -/
def IncN (n : Nat) (l : List Nat) : Prop := l.Pairwise (· < ·) ∧ ∀ x ∈ l, x < n
theorem selS_len (xs : List SwingR) (l : List Nat) : (selS xs l).length = l.length := by simp [selS]
theorem selS_get {xs : List SwingR} {l : List Nat} {j : Nat} (h : j < l.length) (hx : l[j] < xs.length) : (selS xs l)[j]'(by rw [selS_len]; exact h) = xs[l[j]] := by
  simp [selS, hx]
theorem sumI_sel (sw dp sf : Int) {xs : List SwingR} {l : List Nat} (h : ∀ x ∈ l, x < xs.length) : sumI (amps sw dp sf (selS xs l)) = Pm.sumA (amps sw dp sf xs) l := by
  induction l with
  | nil => rfl
  | cons k l ih =>
    have hk := h k (by simp)
    have q := ih fun x hx => h x (by simp [hx])
    simp only [selS, amps, List.map_cons, sumI, Pm.sumA] at q ⊢
    rw [q]
    simp [hk]
theorem sumF_sel {xs : List SwingR} {l : List Nat} (h : ∀ x ∈ l, x < xs.length) : Pu.sumF (frcs (selS xs l)) = Pm.sumA (frcs xs) l := by
  induction l with
  | nil => rfl
  | cons k l ih =>
    have hk := h k (by simp)
    have q := ih fun x hx => h x (by simp [hx])
    simp only [selS, frcs, List.map_cons, Pu.sumF, Pm.sumA] at q ⊢
    rw [q]
    simp [hk]
theorem bytesLess_trans : ∀ (x y z : List UInt8), Op.bytesLess x y = true → Op.bytesLess y z = true → Op.bytesLess x z = true := by
  intro x
  induction x with
  | nil =>
    intro y z h1 h2
    cases z with
    | nil => cases y <;> simp [Op.bytesLess] at h2
    | cons c z => rfl
  | cons a x ih =>
    intro y z h1 h2
    cases y with
    | nil => simp [Op.bytesLess] at h1
    | cons b y =>
      cases z with
      | nil => simp [Op.bytesLess] at h2
      | cons c z =>
        simp only [Op.bytesLess] at h1 h2 ⊢
        have ht : ∀ p q : UInt8, p < q ∨ p = q ∨ q < p := fun p q => by
          rcases Nat.lt_trichotomy p.toNat q.toNat with h | h | h
          · exact .inl (UInt8.lt_iff_toNat_lt.2 h)
          · exact .inr (.inl (UInt8.toNat_inj.1 h))
          · exact .inr (.inr (UInt8.lt_iff_toNat_lt.2 h))
        rcases ht a b with hab | hab | hab
        · rcases ht b c with hbc | hbc | hbc
          · have := UInt8.lt_trans hab hbc
            simp [this]
          · subst hbc
            simp [hab]
          · have h4 : ¬ b < c := fun h' => absurd (UInt8.lt_trans hbc h') (UInt8.lt_irrefl _)
            have h5 : b ≠ c := by rintro rfl; exact UInt8.lt_irrefl _ hbc
            simp [h4, h5] at h2
        · subst hab
          simp [UInt8.lt_irrefl] at h1
          rcases ht a c with hac | hac | hac
          · simp [hac]
          · subst hac
            simp [UInt8.lt_irrefl] at h2 ⊢
            exact ih y z h1 h2
          · have h4 : ¬ a < c := fun h' => absurd (UInt8.lt_trans hac h') (UInt8.lt_irrefl _)
            have h5 : a ≠ c := by rintro rfl; exact UInt8.lt_irrefl _ hac
            simp [h4, h5] at h2
        · have h4 : ¬ a < b := fun h' => absurd (UInt8.lt_trans hab h') (UInt8.lt_irrefl _)
          have h5 : a ≠ b := by rintro rfl; exact UInt8.lt_irrefl _ hab
          simp [h4, h5] at h1
theorem sle_less (a b : ByteArray) : sle b a = !Op.bytesLess a.toList b.toList := by
  unfold sle
  exact (bytesLess_total b.toList a.toList).symm
theorem rows_less {α : Type} {v : α → Bool} {nm : α → ByteArray} {N : Nat} {xs : List α} (h : rowsB v nm N xs = true) : ∀ (d i : Nat) (hj : i + d + 1 < xs.length), Op.bytesLess (nm (xs[i]'(by omega))).toList (nm xs[i + d + 1]).toList = true := by
  have hb := (rowsB_true h).2.2
  have h1 : ∀ (k : Nat) (hk : k + 1 < xs.length), Op.bytesLess (nm (xs[k]'(by omega))).toList (nm xs[k + 1]).toList = true := fun k hk => by
    cases e : Op.bytesLess (nm (xs[k]'(by omega))).toList (nm xs[k + 1]).toList
    · exact absurd (badAt_n (v := v) (nm := nm) hk (by omega) rfl rfl (by rw [sle_less]; simp [e])) (hb (k + 1))
    · rfl
  intro d
  induction d with
  | zero => intro i hj; exact h1 i hj
  | succ d ih => intro i hj; exact bytesLess_trans _ _ _ (ih i (by omega)) (h1 (i + d + 1) hj)
theorem rows_sel {xs : List SwingR} {l : List Nat} (h : rowsB vSwingR SwingR.nm 16 xs = true) (hl : IncN xs.length l) : rowsB vSwingR SwingR.nm 16 (selS xs l) = true := by
  obtain ⟨r1, r2, -⟩ := rowsB_true h
  have hlen : l.length ≤ xs.length := by
    have hs : ∀ (m : Nat) (l : List Nat) (lo : Nat), l.Pairwise (· < ·) → (∀ x ∈ l, lo ≤ x ∧ x < lo + m) → l.length ≤ m := by
      intro m
      induction m with
      | zero =>
        intro l lo _ hx
        match l with
        | [] => exact Nat.le_refl _
        | x :: l => exact absurd (hx x (by simp)) (by omega)
      | succ m ih =>
        intro l lo hp hx
        match l with
        | [] => simp
        | x :: l =>
          obtain ⟨h1, h2⟩ := List.pairwise_cons.1 hp
          have := ih l (lo + 1) h2 fun y hy => by have := h1 y hy; have := hx y (by simp [hy]); have := hx x (by simp); omega
          simp only [List.length_cons]
          omega
    exact hs xs.length l 0 hl.1 fun x hx => by have := hl.2 x hx; omega
  rw [rowsB_fin]
  · rw [selS_len]; simp; omega
  · intro k hk
    rw [selS_len] at hk
    have hx := hl.2 l[k] (List.getElem_mem hk)
    refine badAt_not (by rw [selS_len]; exact hk) (selS_get hk hx) (p := if h : 0 < k then xs[l[k - 1]'(by omega)]'(hl.2 _ (List.getElem_mem _)) else xs[l[k]]) (fun h0 => by rw [dif_pos h0]; exact selS_get (by omega) (hl.2 _ (List.getElem_mem _))) (r1 _ (List.getElem_mem _)) fun h0 => ?_
    rw [dif_pos h0, sle_less]
    have hlt : l[k - 1]'(by omega) < l[k] := List.pairwise_iff_getElem.1 hl.1 (k - 1) k (by omega) hk (by omega)
    have hd : l[k] = l[k - 1]'(by omega) + (l[k] - l[k - 1]'(by omega) - 1) + 1 := by omega
    have q := rows_less h (l[k] - l[k - 1]'(by omega) - 1) (l[k - 1]'(by omega)) (by omega)
    simp only [← hd] at q
    rw [q]
    rfl
theorem totR_sel {nm : ByteArray} {sw dp sf lim : Int} {xs : List SwingR} {l : List Nat} (hv : vTower nm sw dp sf lim = true) (h : rowsB vSwingR SwingR.nm 16 xs = true) (hl : IncN xs.length l) : totR nm sw dp sf lim (selS xs l) = (Pm.sumA (amps sw dp sf xs) l, 0) := by
  rw [totR_3 hv (rows_sel h hl), sumI_sel sw dp sf hl.2]
/-- The rising list of different places. -/
theorem rise_nat {T : List Nat} (h : T.Nodup) : ∃ T', Mo.rise (castL T) = castL T' ∧ T'.Perm T ∧ T'.Pairwise (· < ·) := by
  have hc := Mo.nodup_cast h
  have hp := Mo.rise_perm hc
  have hs := Mo.rise_sorted hc
  have h0 : ∀ x ∈ Mo.rise (castL T), 0 ≤ x := fun x hx => by
    have := hp.mem_iff.1 hx
    simp only [List.mem_map] at this
    obtain ⟨k, _, rfl⟩ := this
    omega
  have e : Mo.rise (castL T) = castL ((Mo.rise (castL T)).map Int.toNat) := by
    unfold castL
    rw [List.map_map]
    conv => lhs; rw [← List.map_id (Mo.rise _)]
    exact List.map_congr_left fun x hx => by have := h0 x hx; simp only [id, Function.comp]; omega
  have e2 : (castL T).map Int.toNat = T := by simp [castL, Function.comp_def]
  have hp2 : ((Mo.rise (castL T)).map Int.toNat).Perm T := by
    have := hp.map Int.toNat
    rwa [e2] at this
  refine ⟨(Mo.rise (castL T)).map Int.toNat, e, hp2, ?_⟩
  have hnd : (Mo.rise (castL T)).Nodup := hp.nodup_iff.2 hc
  rw [List.pairwise_map]
  have hb := List.pairwise_and_iff.2 ⟨hs, List.nodup_iff_pairwise_ne.1 hnd⟩
  refine List.Pairwise.imp_of_mem (fun {a b} ha hb2 hab => ?_) hb
  have := h0 a ha
  have := h0 b hb2
  omega
/-- What the greatest number of swings says. -/
theorem most_says {nm : ByteArray} {sw dp sf lim : Int} {xs : List SwingR} (hv : vTower nm sw dp sf lim = true) (h : rowsB vSwingR SwingR.nm 16 xs = true) : ∃ T, mostR nm sw dp sf lim xs = (castL T, 0) ∧ IncN xs.length T ∧ Pm.sumA (amps sw dp sf xs) T ≤ lim ∧
    (∀ x, x < xs.length → x ∉ T → lim < Pm.sumA (amps sw dp sf xs) T + (amps sw dp sf xs).getD x 0) ∧ ∀ B : List Nat, B.Nodup → (∀ x ∈ B, x < xs.length) → Pm.sumA (amps sw dp sf xs) B ≤ lim → B.length ≤ T.length := by
  obtain ⟨-, ⟨a1, a2⟩, ⟨a3, a4⟩, ⟨a5, a6⟩, a7, a8⟩ := vTower_true _ _ _ _ _ hv
  have hav := amps_val (sf := sf) a1 a2 a3 a4 a5 (rowsB_true h).1
  have hal := amps_len sw dp sf xs
  rw [mostR_3 hv h]
  generalize amps sw dp sf xs = al at *
  have h0 : ∀ x ∈ al, 0 ≤ x := fun x hx => (hav x hx).1
  have hnd : (Mo.takeG al lim (Mo.ordA (Mo.ltA al) al.length) 0).Nodup := (Mo.takeG_sub _ _).nodup Mo.ordA_nodup
  obtain ⟨T, e, hp, hlt⟩ := rise_nat hnd
  have hT : ∀ x ∈ T, x < xs.length := fun x hx => by
    have := (Mo.takeG_sub _ _).mem (hp.mem_iff.1 hx)
    have := Mo.ordA_lt this
    omega
  have hasc := Pm.ord_asc (al := al) al.length
  have hsum := Pm.sumA_perm (al := al) hp
  obtain ⟨R, _, h1, _⟩ := Pm.takeG_split (al := al) (lim := lim) (Mo.ordA (Mo.ltA al) al.length) 0 a7
  refine ⟨T, by unfold Mo.most; rw [← e], ⟨hlt, hT⟩, by rw [hsum]; omega, fun x hx hn => ?_, fun B hB hm hb => ?_⟩
  · rw [hsum]
    exact Pm.greedy_more hasc a7 (Mo.ordA_perm.mem_iff.2 (by simpa using (by omega : x < al.length))) fun q => hn (hp.mem_iff.2 q)
  · rw [hp.length_eq]
    exact Pm.greedy_most' h0 hasc Mo.ordA_nodup a7 hB (fun x hx => Mo.ordA_perm.mem_iff.2 (by simpa using (by have := hm x hx; omega : x < al.length))) hb
/-- What the greatest force says. -/
theorem force_says {nm : ByteArray} {sw dp sf lim bud : Int} {xs : List SwingR} (hv : vTower nm sw dp sf lim = true) (h : rowsB vSwingR SwingR.nm 16 xs = true) :
    (∃ code, frcR nm sw dp sf lim xs bud = ([], 0, code) ∧ code ≠ 0) ∨ ∃ T, frcR nm sw dp sf lim xs bud = (castL T, Pm.sumA (frcs xs) T, 0) ∧ IncN xs.length T ∧ Pm.sumA (amps sw dp sf xs) T ≤ lim ∧ ∀ T2, IncN xs.length T2 → Pm.sumA (amps sw dp sf xs) T2 ≤ lim → Pm.sumA (frcs xs) T2 ≤ Pm.sumA (frcs xs) T := by
  cases hb : inB bud 1 20000
  · exact .inl ⟨2, frcR_3 hv h hb, by decide⟩
  · obtain ⟨-, ⟨a1, a2⟩, ⟨a3, a4⟩, ⟨a5, a6⟩, a7, a8⟩ := vTower_true _ _ _ _ _ hv
    have hav := amps_val (sf := sf) a1 a2 a3 a4 a5 (rowsB_true h).1
    have hfv : ∀ x ∈ frcs xs, 0 ≤ x := fun x hx => by
      unfold frcs at hx
      rw [List.mem_map] at hx
      obtain ⟨y, hy, rfl⟩ := hx
      have := vSwing_true _ _ _ ((rowsB_true h).1 y hy)
      omega
    have hfl := frcs_len xs
    cases hs : (lastP sw dp sf lim xs bud).spent
    · right
      have e := frcR_4 hv h hb
      rw [hs, if_neg (by simp)] at e
      have hq := Pm.search_says (fs := frcs xs) (am := amps sw dp sf xs) (lim := lim) (bud := bud) hfv (fun x hx => (hav x hx).1) a7 (by rw [hfl]; exact hs)
      obtain ⟨T, hT, h1, h2, h3, h4⟩ := hq
      rw [hfl] at hT h2 h3 h4
      refine ⟨T, ?_, ⟨(Pm.ch_lt hT).2, fun x hx => ((Pm.ch_lt hT).1 x hx).2⟩, h1, fun T2 hT2 hl => h4 T2 (Pm.ch_of xs.length 0 T2 (by omega) (by omega) (fun x hx => ⟨by omega, hT2.2 x hx⟩) hT2.1) hl⟩
      rw [e, ← h2, ← show (lastP sw dp sf lim xs bud).best = castL T from h3]
      rfl
    · left
      have e := frcR_4 hv h hb
      rw [hs, if_pos rfl] at e
      exact ⟨5, e, by decide⟩
theorem sum_force {xs : List SwingR} (h : ∀ x ∈ xs, 0 ≤ x.force ∧ x.force ≤ 1000000) : 0 ≤ Pu.sumF (frcs xs) ∧ Pu.sumF (frcs xs) ≤ 1000000 * xs.length := by
  induction xs with
  | nil => exact ⟨Int.le_refl _, by simp [frcs, Pu.sumF]⟩
  | cons x xs ih =>
    have a := h x (by simp)
    have b := ih fun y hy => h y (by simp [hy])
    simp only [frcs, List.map_cons, Pu.sumF, List.length_cons] at b ⊢
    omega
/-- A further place is put into rising places. -/
theorem put_inc {n : Nat} {T : List Nat} (h : IncN n T) {x : Nat} (hx : x < n) (hn : x ∉ T) : ∃ T', Mo.put (x : Int) (castL T) = castL T' ∧ T'.Perm (x :: T) ∧ IncN n T' := by
  have hnd : T.Nodup := List.nodup_iff_pairwise_ne.2 (h.1.imp fun q => by omega)
  have hnd2 : (T ++ [x]).Nodup := List.nodup_append.2 ⟨hnd, by simp, fun a ha b hb => by simp at hb; rintro rfl; exact hn (hb ▸ ha)⟩
  obtain ⟨T1, e1, p1, l1⟩ := rise_nat hnd
  have eT : T1 = T := List.Perm.eq_of_pairwise (le := fun a b : Nat => a < b) (fun a b _ _ h1 h2 => by omega) l1 h.1 p1
  subst eT
  obtain ⟨T', e2, p2, l2⟩ := rise_nat hnd2
  have e3 : Mo.rise (castL (T1 ++ [x])) = Mo.put (x : Int) (Mo.rise (castL T1)) := by
    unfold castL
    rw [List.map_append]
    exact Mo.rise_snoc _ _
  refine ⟨T', by rw [← e2, e3, e1], p2.trans (List.perm_append_singleton x T1), l2, fun y hy => ?_⟩
  have := p2.mem_iff.1 hy
  rcases List.mem_append.1 this with q | q
  · exact h.2 y q
  · simp at q; omega
theorem put_in {l : List Int} {x : Int} (h : l.Pairwise (· < ·)) (hx : x ∈ l) : Mo.put x l = l := by
  induction l with
  | nil => simp at hx
  | cons y l ih =>
    obtain ⟨h1, h2⟩ := List.pairwise_cons.1 h
    simp only [Mo.put]
    rcases List.mem_cons.1 hx with rfl | hx
    · rw [if_neg (by omega), if_neg (by omega)]
    · have := h1 x hx
      rw [if_pos this, ih h2 hx]
end Go.Proofs.Ytjklhacffdhgaaa
