/- Rows of named elements in rising order, on both sides. -/
import Derived.Test.YtajodbhbmfjmjaaGreatDoorSlice
import Derived.Deep.RegionWith
namespace Go.Proofs.YtajodbhbmfjmjaaGreatDoor
open Go.RowKit

theorem bytesLess_total : ∀ (x y : List UInt8), (!Op.bytesLess y x) = (Op.bytesLess x y || x == y) := by
  intro x
  induction x with
  | nil => intro y; cases y <;> simp [Op.bytesLess]
  | cons a x ih =>
    intro y
    cases y with
    | nil => simp [Op.bytesLess]
    | cons b y =>
      have h := ih y
      simp only [Op.bytesLess]
      have ht : a < b ∨ a = b ∨ b < a := by
        rcases Nat.lt_trichotomy a.toNat b.toNat with h | h | h
        · exact .inl (UInt8.lt_iff_toNat_lt.2 h)
        · exact .inr (.inl (UInt8.toNat_inj.1 h))
        · exact .inr (.inr (UInt8.lt_iff_toNat_lt.2 h))
      rcases ht with h1 | h1 | h1
      · have h2 : ¬ b < a := fun h => absurd (UInt8.lt_trans h1 h) (UInt8.lt_irrefl _)
        have h3 : b ≠ a := by rintro rfl; exact UInt8.lt_irrefl _ h1
        simp [h1, h2, h3]
      · subst h1
        simp [UInt8.lt_irrefl, h]
      · have h2 : ¬ a < b := fun h => absurd (UInt8.lt_trans h1 h) (UInt8.lt_irrefl _)
        have h3 : b ≠ a := by rintro rfl; exact UInt8.lt_irrefl _ h1
        simp [h1, h2, Ne.symm h3]

/-- One text is not behind another. -/
def sle (a b : ByteArray) : Bool := Op.bytesLess a.toList b.toList || a.toList == b.toList

/-- What makes a row of named elements invalid at a place. -/
def badAt {α : Type} (v : α → Bool) (nm : α → ByteArray) (xs : List α) (k : Nat) : Prop := ∃ h : k < xs.length, v xs[k] = false ∨ ∃ _ : 0 < k, sle (nm xs[k]) (nm (xs[k - 1]'(by omega))) = true
noncomputable def rowsB {α : Type} (v : α → Bool) (nm : α → ByteArray) (N : Nat) (xs : List α) : Bool := @decide ((∀ k, ¬ badAt v nm xs k) ∧ xs.length ≤ N) (Classical.propDecidable _)
theorem rowsB_bad {α : Type} {v : α → Bool} {nm : α → ByteArray} {N : Nat} {xs : List α} (k : Nat) (h : badAt v nm xs k) : rowsB v nm N xs = false := by
  unfold rowsB; exact @decide_eq_false _ (Classical.propDecidable _) fun a => a.1 k h
theorem rowsB_fin {α : Type} {v : α → Bool} {nm : α → ByteArray} {N : Nat} {xs : List α} (h : ∀ k, k < xs.length → ¬ badAt v nm xs k) : rowsB v nm N xs = decide ((xs.length : Int) ≤ N) := by
  have h' : ∀ k, ¬ badAt v nm xs k := fun k hb => h k hb.1 hb
  unfold rowsB
  by_cases hl : xs.length ≤ N
  · rw [@decide_eq_true _ (Classical.propDecidable _) ⟨h', hl⟩, decide_eq_true (by exact_mod_cast hl)]
  · rw [@decide_eq_false _ (Classical.propDecidable _) fun a => hl a.2, decide_eq_false (by omega)]

theorem badAt_not {α : Type} {v : α → Bool} {nm : α → ByteArray} {xs : List α} {k : Nat} {p x : α} (hk : k < xs.length) (hx : xs[k] = x) (hp : (h : 0 < k) → xs[k - 1]'(by omega) = p) (h1 : v x = true) (h2 : 0 < k → sle (nm x) (nm p) = false) : ¬ badAt v nm xs k := by
  rintro ⟨h, a | ⟨h0, a⟩⟩
  · rw [hx, h1] at a; cases a
  · rw [hx, hp h0, h2 h0] at a; cases a
theorem badAt_v {α : Type} {v : α → Bool} {nm : α → ByteArray} {xs : List α} {k : Nat} {x : α} (hk : k < xs.length) (hx : xs[k] = x) (h1 : v x = false) : badAt v nm xs k := ⟨hk, .inl (by rw [hx]; exact h1)⟩
theorem badAt_n {α : Type} {v : α → Bool} {nm : α → ByteArray} {xs : List α} {k : Nat} {p x : α} (hk : k < xs.length) (h0 : 0 < k) (hx : xs[k] = x) (hp : xs[k - 1]'(by omega) = p) (h1 : sle (nm x) (nm p) = true) : badAt v nm xs k := ⟨hk, .inr ⟨h0, by rw [hx, hp]; exact h1⟩⟩
theorem bad_step {α : Type} {v : α → Bool} {nm : α → ByteArray} {xs : List α} {k : Nat} (h : Hid (∀ j, j < k → ¬ badAt v nm xs j)) (hk : ¬ badAt v nm xs k) : Hid (∀ j, j < k + 1 → ¬ badAt v nm xs j) := fun j hj => by
  by_cases e : j = k
  · subst e; exact hk
  · exact h.out j (by omega)

end Go.Proofs.YtajodbhbmfjmjaaGreatDoor
