/- Plain laws of the search for schedules: how many nodes it visits; what the searches of four pours answer. -/
import Derived.Test.YtklmbgefdopifaaHtQ
namespace Go.Proofs.Ytklmbgefdopifaa
namespace Ht
section
variable {first : Bool} {nx : Int → Int → List HeatR → Int × Int × Int} {n m f : Nat} {hs : List HeatR} {s : S} {stp : Nat → S → S}
/-- At most so many nodes, with d pours to go. -/
def T (m : Nat) : Nat → Nat
  | 0 => 1
  | d + 1 => 1 + (d + 1) * (m * T m d)
/-- The pours from k on that are not done. -/
def U (hs : List HeatR) : Nat → Nat → Nat
  | _, 0 => 0
  | k, j + 1 => (if hasP hs k then 0 else 1) + U hs (k + 1) j
theorem U_push {p : Nat} {h : HeatR} (e : h.pr = p) (hh : hasP hs p = false) (j : Nat) : ∀ k, U (hs ++ [h]) k j + (if k ≤ p ∧ p < k + j then 1 else 0) = U hs k j := by
  induction j with
  | zero => intro k; rw [if_neg (by omega)]; rfl
  | succ j ih =>
    intro k
    have q := ih (k + 1)
    simp only [U, hasP_snoc, e]
    by_cases hk : k = p
    · subst hk
      rw [if_neg (by omega)] at q
      simp [hh]
      omega
    · have hpk : ¬ (p : Int) = (k : Int) := by omega
      have : (((p : Nat) : Int) == (k : Int)) = false := by rw [beq_eq_false_iff_ne]; exact hpk
      rw [this, Bool.or_false]
      generalize (if hasP hs (k : Int) = true then 0 else 1) = z
      by_cases hb : k ≤ p ∧ p < k + (j + 1)
      · rw [if_pos hb]
        rw [if_pos (by omega)] at q
        omega
      · rw [if_neg hb]
        rw [if_neg (by omega)] at q
        omega
theorem U_nil (j : Nat) : ∀ k, U [] k j = j := by
  induction j with
  | zero => intro k; rfl
  | succ j ih => intro k; simp only [U, ih]; simp [hasP]; omega
theorem U_path (h : Path nx n m hs) : ∀ i, i ≤ hs.length → U (hs.take i) 0 n + i = n := by
  intro i
  induction i with
  | zero => intro _; rw [List.take_zero, U_nil]; rfl
  | succ i ih =>
    intro hi
    have q := ih (by omega)
    obtain ⟨p, c, h1, h2, h3, h4, h5, h6⟩ := h i (by omega)
    have w := U_push (h := hs[i]) h3 h5 n 0
    rw [if_pos (by omega)] at w
    rw [List.take_succ_eq_append_getElem (by omega)]
    omega
theorem path_le (h : Path nx n m hs) : hs.length ≤ n := by
  have := U_path h hs.length (Nat.le_refl _)
  omega
/-- A search that has nodes enough is not spent, and so many nodes are left. -/
def Cost (c : Nat) (s s' : S) : Prop := s'.spent = false ∧ s.left - c ≤ s'.left
theorem roundsC_cost {p d : Nat} (hx : ∀ (c : Nat) (s : S), c < m → s.spent = false → (T m d : Int) ≤ s.left → Cost (T m d) s (stp c s)) (j : Nat) : ∀ (k : Nat) (s : S), k + j ≤ m → s.spent = false → ((j * T m d : Nat) : Int) ≤ s.left → Cost (j * T m d) s (rounds stp j k s) := by
  have _p := p
  clear _p
  induction j with
  | zero => intro k s _ h _; exact ⟨h, by simp [rounds]⟩
  | succ j ih =>
    intro k s hk h hl
    rw [Nat.succ_mul] at hl
    have a := hx k s (by omega) h (by omega)
    have b := ih (k + 1) (stp k s) (by omega) a.1 (by have := a.2; omega)
    refine ⟨b.1, ?_⟩
    have a2 := a.2
    have b2 := b.2
    rw [Nat.succ_mul]
    show s.left - ((j * T m d + T m d : Nat) : Int) ≤ (rounds stp j (k + 1) (stp k s)).left
    omega
theorem roundsP_cost {C : Nat} (hx : ∀ (p : Nat) (s : S), p < n → s.spent = false → hasP hs p = false → (C : Int) ≤ s.left → Cost C s (stp p s)) (hy : ∀ (p : Nat) (s : S), hasP hs p = true → stp p s = s) (j : Nat) : ∀ (k : Nat) (s : S), k + j ≤ n → s.spent = false → ((U hs k j * C : Nat) : Int) ≤ s.left → Cost (U hs k j * C) s (rounds stp j k s) := by
  induction j with
  | zero => intro k s _ h _; exact ⟨h, by simp [rounds, U]⟩
  | succ j ih =>
    intro k s hk h hl
    cases hp : hasP hs k
    · have e : U hs k (j + 1) = U hs (k + 1) j + 1 := by simp [U, hp]; omega
      rw [e, Nat.succ_mul] at hl ⊢
      have a := hx k s (by omega) h hp (by omega)
      have b := ih (k + 1) (stp k s) (by omega) a.1 (by have := a.2; omega)
      refine ⟨b.1, ?_⟩
      have a2 := a.2
      have b2 := b.2
      show s.left - ((U hs (k + 1) j * C + C : Nat) : Int) ≤ (rounds stp j (k + 1) (stp k s)).left
      omega
    · have e : U hs k (j + 1) = U hs (k + 1) j := by simp [U, hp]
      rw [e] at hl ⊢
      have b := ih (k + 1) s (by omega) h hl
      show Cost _ s (rounds stp j (k + 1) (stp k s))
      rw [hy k s hp]
      exact b
theorem srch_cost : ∀ (f : Nat) {hs : List HeatR} {s : S}, Path nx n m hs → n < f + hs.length → s.spent = false → (T m (n - hs.length) : Int) ≤ s.left → Cost (T m (n - hs.length)) s (srch first nx n m f hs s) := by
  intro f
  induction f with
  | zero => intro hs s hp hf; have := path_le hp; omega
  | succ f ih =>
    intro hs s hp hf hs0 hl
    cases e : ended first s
    · have hT : 1 ≤ T m (n - hs.length) := by cases n - hs.length <;> simp [T]
      have h0 : s.left ≠ 0 := by omega
      by_cases hlen : hs.length = n
      · rw [srch_full e h0 hlen]
        exact ⟨by simpa [look] using hs0, by simp only [look]; omega⟩
      · rw [srch_goes e h0 hlen]
        have hle := path_le hp
        obtain ⟨d, hd⟩ : ∃ d, n - hs.length = d + 1 := ⟨n - hs.length - 1, by omega⟩
        have hU := U_path hp hs.length (Nat.le_refl _)
        rw [List.take_length] at hU
        have hU2 : U hs 0 n = d + 1 := by omega
        rw [hd] at hl ⊢
        have hTd : T m (d + 1) = 1 + (d + 1) * (m * T m d) := rfl
        rw [hTd] at hl ⊢
        have q := roundsP_cost (stp := stepP first nx n m f hs) (C := m * T m d) (hs := hs) (n := n) (fun p s hpn hs1 hh hl1 => by
          refine roundsC_cost (p := p) (d := d) (fun c s hcm hs2 hl2 => ?_) m 0 s (by omega) hs1 hl1
          generalize hx : nx p c hs = r
          obtain ⟨a, b, cd⟩ := r
          by_cases hcd : cd = 0
          · subst hcd
            rw [stepC_yes hh hx]
            have w := ih (s := s) (path_snoc hp hpn hcm hh hx) (by simp; omega) hs2 (by rw [List.length_append, List.length_singleton, show n - (hs.length + 1) = d by omega]; exact hl2)
            rw [List.length_append, List.length_singleton, show n - (hs.length + 1) = d by omega] at w
            exact w
          · rw [stepC_no (by rw [hx]; exact hcd)]
            exact ⟨hs2, by omega⟩) (fun p s hh => stepP_has hh) n 0 { s with left := s.left - 1 } (by omega) hs0 (by rw [hU2]; simp only; omega)
        rw [hU2] at q
        obtain ⟨q1, q2⟩ := q
        refine ⟨q1, ?_⟩
        simp only at q2
        omega
    · rw [srch_ended e]
      exact ⟨hs0, by omega⟩
end
theorem T_small {n m : Nat} (hn : n ≤ 4) (hm : m ≤ 2) : T m n ≤ 2000 := by
  match m, hm, n, hn with
  | 0, _, 0, _ => decide
  | 0, _, 1, _ => decide
  | 0, _, 2, _ => decide
  | 0, _, 3, _ => decide
  | 0, _, 4, _ => decide
  | 1, _, 0, _ => decide
  | 1, _, 1, _ => decide
  | 1, _, 2, _ => decide
  | 1, _, 3, _ => decide
  | 1, _, 4, _ => decide
  | 2, _, 0, _ => decide
  | 2, _, 1, _ => decide
  | 2, _, 2, _ => decide
  | 2, _, 3, _ => decide
  | 2, _, 4, _ => decide
end Ht
open Ht
/-- A schedule of all pours. -/
def Plan (ps : List PourR) (cs : List CrucR) (hs : List HeatR) : Prop := Path (nx ps cs) ps.length cs.length hs ∧ hs.length = ps.length
theorem last_of (ps : List PourR) (cs : List CrucR) (first : Bool) (hn : ps.length ≤ 4) (hm : cs.length ≤ 2) :
    (lastH ps cs 2000 first).spent = false ∧ 0 ≤ (lastH ps cs 2000 first).count ∧ (0 < (lastH ps cs 2000 first).count → Plan ps cs (lastH ps cs 2000 first).best) ∧ ∀ q, Plan ps cs q → 0 < (lastH ps cs 2000 first).count ∧ (first = false → lastE (lastH ps cs 2000 first).best ≤ lastE q) := by
  have hT := T_small hn hm
  have c := srch_cost (first := first) (nx := nx ps cs) (n := ps.length) (m := cs.length) (ps.length + 1) (hs := []) (s := ⟨2000, false, 0, []⟩) path_nil (by simp) rfl (by simp; omega)
  have d := srch_sound (first := first) (nx := nx ps cs) (n := ps.length) (m := cs.length) (ps.length + 1) (hs := []) (s := ⟨2000, false, 0, []⟩) path_nil ⟨Int.le_refl _, fun h => by simp at h⟩
  refine ⟨c.1, d.1, d.2, fun q hq => ?_⟩
  exact srch_finds (first := first) hq.1 hq.2 (ps.length + 1) (hs := []) (s := ⟨2000, false, 0, []⟩) (by simp) (by simp) (by simp) (Int.le_refl _) c.1
/-- What the two searches answer. -/
theorem pours_say {ps : List PourR} {cs : List CrucR} (hv : rowsB vPourR PourR.nm 12 ps = true) (hw : okC cs = true) (hn : ps.length ≤ 4) (hm : cs.length ≤ 2) {xs ys : List HeatR} {a b : Int} (h1 : bestH ps cs 2000 true = (xs, a)) (h2 : bestH ps cs 2000 false = (ys, b)) :
    ∃ k : Int, cntH ps cs 2000 = (k, 0) ∧ ((a = 3 ∧ b = 3 ∧ k = 0 ∧ ∀ q, ¬ Plan ps cs q) ∨ (a = 0 ∧ b = 0 ∧ 0 < k ∧ Plan ps cs xs ∧ Plan ps cs ys ∧ ∀ q, Plan ps cs q → lastE ys ≤ lastE q)) := by
  have hb : inB 2000 1 20000 = true := rfl
  obtain ⟨f1, f2, f3, f4⟩ := last_of ps cs true hn hm
  obtain ⟨g1, g2, g3, g4⟩ := last_of ps cs false hn hm
  have r1 := runH_5 hv hw hb f1
  have r2 := runH_5 hv hw hb g1
  refine ⟨(lastH ps cs 2000 false).count, by unfold cntH; rw [r2]; simp, ?_⟩
  unfold bestH at h1 h2
  rw [r1] at h1
  rw [r2] at h2
  simp only [if_true] at h1 h2
  by_cases hc : (lastH ps cs 2000 false).count = 0
  · left
    have hno : ∀ q, ¬ Plan ps cs q := fun q hq => by have := (g4 q hq).1; omega
    have hc1 : (lastH ps cs 2000 true).count = 0 := by
      by_cases h : 0 < (lastH ps cs 2000 true).count
      · exact absurd (f3 h) (hno _)
      · omega
    rw [if_pos hc1] at h1
    rw [if_pos hc] at h2
    simp only [Prod.mk.injEq] at h1 h2
    exact ⟨h1.2.symm, h2.2.symm, hc, hno⟩
  · right
    have hg := g3 (by omega)
    have hf := (f4 _ hg).1
    rw [if_neg (by omega)] at h1
    rw [if_neg hc] at h2
    simp only [Prod.mk.injEq] at h1 h2
    obtain ⟨rfl, rfl⟩ := h1
    obtain ⟨rfl, rfl⟩ := h2
    exact ⟨rfl, rfl, by omega, f3 hf, hg, fun q hq => (g4 q hq).2 rfl⟩
end Go.Proofs.Ytklmbgefdopifaa
