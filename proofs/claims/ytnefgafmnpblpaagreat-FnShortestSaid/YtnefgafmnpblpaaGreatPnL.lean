/- The planner's plain side: the binary logarithm in 24 bits, and that it rises; no program in sight. -/
namespace Go.Proofs.YtnefgafmnpblpaaGreat.Pn

/-- One bit of a logarithm: the number (30 bits behind the point) and the bits so far. -/
def lgStep (p : Int × Int) : Int × Int := if 2147483648 ≤ p.1 * p.1 / 1073741824 then (p.1 * p.1 / 1073741824 / 2, 2 * p.2 + 1) else (p.1 * p.1 / 1073741824, 2 * p.2)
def lgIter : Nat → Int × Int → Int × Int
  | 0, p => p
  | n + 1, p => lgStep (lgIter n p)
/-- The number, 30 bits behind the point. -/
def lgMan (n : Int) : Int := n * 2 ^ (30 - Nat.log2 n.toNat)
/-- The logarithm of a number below 2^31, in 24 bits behind the point. -/
@[irreducible] def lgI (n : Int) : Int := (Nat.log2 n.toNat : Int) * 16777216 + (lgIter 24 (lgMan n, 0)).2
/-- The interval from 1 to a number. -/
@[irreducible] def lgT (n : Int) : Int := 12000 * lgI n / 16777216
/-- The interval between two numbers. -/
def ctB (f g : Int) : Int := lgT g - lgT f
theorem sq_lo {x a : Int} (h0 : 0 ≤ a) (h : a ≤ x) : a * a ≤ x * x := Int.mul_le_mul h h h0 (by omega)
theorem step_ok {p : Int × Int} (h : 1073741824 ≤ p.1 ∧ p.1 < 2147483648) : 1073741824 ≤ (lgStep p).1 ∧ (lgStep p).1 < 2147483648 := by
  obtain ⟨x, r⟩ := p
  simp only at h
  have h1 : 1073741824 * 1073741824 ≤ x * x := sq_lo (by omega) h.1
  have h2 : x * x ≤ 2147483647 * 2147483647 := sq_lo (by omega) (by omega)
  unfold lgStep
  generalize x * x = y at *
  simp only
  split <;> simp only <;> omega
theorem iter_ok {p : Int × Int} (h : 1073741824 ≤ p.1 ∧ p.1 < 2147483648) : ∀ n, 1073741824 ≤ (lgIter n p).1 ∧ (lgIter n p).1 < 2147483648
  | 0 => h
  | n + 1 => step_ok (iter_ok h n)
theorem step_bit (p : Int × Int) : 2 * p.2 ≤ (lgStep p).2 ∧ (lgStep p).2 ≤ 2 * p.2 + 1 := by unfold lgStep; split <;> simp only <;> omega
theorem iter_lt (x : Int) : ∀ n, 0 ≤ (lgIter n (x, 0)).2 ∧ (lgIter n (x, 0)).2 < 2 ^ n
  | 0 => by simp [lgIter]
  | n + 1 => by
    have h := iter_lt x n
    have h2 := step_bit (lgIter n (x, 0))
    simp only [lgIter]
    rw [Int.pow_succ]
    omega
/-- In the order of what was found, then of the number. -/
def Lex (p q : Int × Int) : Prop := p.2 < q.2 ∨ (p.2 = q.2 ∧ 0 ≤ p.1 ∧ p.1 ≤ q.1)
theorem step_lex {p q : Int × Int} (h : Lex p q) : Lex (lgStep p) (lgStep q) := by
  rcases h with h | ⟨h1, h2, h3⟩
  · have a := (step_bit p).2
    have b := (step_bit q).1
    exact .inl (by omega)
  · have h4 : p.1 * p.1 ≤ q.1 * q.1 := sq_lo h2 h3
    have h5 : 0 ≤ p.1 * p.1 := Int.mul_nonneg h2 h2
    unfold lgStep Lex
    generalize p.1 * p.1 = y at *
    generalize q.1 * q.1 = z at *
    split <;> split <;> simp only <;> omega
theorem iter_lex {p q : Int × Int} (h : Lex p q) : ∀ n, Lex (lgIter n p) (lgIter n q)
  | 0 => h
  | n + 1 => step_lex (iter_lex h n)
theorem log2_lt31 {n : Int} (h0 : 0 < n) (h : n < 2147483648) : Nat.log2 n.toNat < 31 := (Nat.log2_lt (by omega)).2 (by omega)
theorem man_ok {n : Int} (h0 : 0 < n) (h : n < 2147483648) : 1073741824 ≤ lgMan n ∧ lgMan n < 2147483648 := by
  have hn : n.toNat ≠ 0 := by omega
  have a := Nat.log2_self_le hn
  have b := Nat.lt_log2_self (n := n.toNat)
  have c := log2_lt31 h0 h
  have e : (2 : Nat) ^ 30 = 2 ^ Nat.log2 n.toNat * 2 ^ (30 - Nat.log2 n.toNat) := by rw [← Nat.pow_add, show Nat.log2 n.toNat + (30 - Nat.log2 n.toNat) = 30 by omega]
  have e2 : (2 : Nat) ^ 31 = 2 ^ (Nat.log2 n.toNat + 1) * 2 ^ (30 - Nat.log2 n.toNat) := by rw [← Nat.pow_add, show Nat.log2 n.toNat + 1 + (30 - Nat.log2 n.toNat) = 31 by omega]
  have k : 0 < 2 ^ (30 - Nat.log2 n.toNat) := Nat.pos_of_ne_zero (by simp)
  have q : lgMan n = ((n.toNat * 2 ^ (30 - Nat.log2 n.toNat) : Nat) : Int) := by
    unfold lgMan
    rw [Int.natCast_mul, Int.toNat_of_nonneg (by omega)]
    simp
  rw [q]
  constructor
  · have := Nat.mul_le_mul_right (2 ^ (30 - Nat.log2 n.toNat)) a
    omega
  · have := Nat.mul_lt_mul_of_pos_right b k
    omega
theorem lgI_nonneg (n : Int) : 0 ≤ lgI n := by
  have d := (iter_lt (lgMan n) 24).1
  unfold lgI
  omega
theorem lgI_lt {n : Int} (h0 : 0 < n) (h : n < 2147483648) : lgI n < 31 * 16777216 := by
  have c := log2_lt31 h0 h
  have d := (iter_lt (lgMan n) 24).2
  unfold lgI
  omega
theorem lgI_mono {n m : Int} (h0 : 0 < n) (h : n ≤ m) : lgI n ≤ lgI m := by
  have e : Nat.log2 n.toNat ≤ Nat.log2 m.toNat := by
    rcases Nat.lt_or_ge (Nat.log2 m.toNat) (Nat.log2 n.toNat) with h1 | h1
    · have a := Nat.log2_self_le (n := n.toNat) (by omega)
      have b := (Nat.log2_lt (n := m.toNat) (by omega) (k := Nat.log2 n.toNat)).1 h1
      omega
    · exact h1
  have d := iter_lt (lgMan n) 24
  have d2 := iter_lt (lgMan m) 24
  unfold lgI
  rcases Nat.lt_or_ge (Nat.log2 n.toNat) (Nat.log2 m.toNat) with h1 | h1
  · omega
  · have h2 : Nat.log2 n.toNat = Nat.log2 m.toNat := by omega
    have hp : (0 : Int) ≤ 2 ^ (30 - Nat.log2 m.toNat) := Int.pow_nonneg (by omega)
    have h3 : lgMan n ≤ lgMan m := by unfold lgMan; rw [h2]; exact Int.mul_le_mul_of_nonneg_right h hp
    have h4 : 0 ≤ lgMan n := by unfold lgMan; rw [h2]; exact Int.mul_nonneg (by omega) hp
    rcases iter_lex (p := (lgMan n, 0)) (q := (lgMan m, 0)) (.inr ⟨rfl, h4, h3⟩) 24 with h5 | ⟨h5, _⟩ <;> omega
theorem lgT_mono {n m : Int} (h0 : 0 < n) (h : n ≤ m) : lgT n ≤ lgT m := by
  have := lgI_mono h0 h
  unfold lgT; omega
theorem lgT_nonneg (n : Int) : 0 ≤ lgT n := by
  have := lgI_nonneg n
  unfold lgT; omega
theorem lgT_lt {n : Int} (h0 : 0 < n) (h : n < 2147483648) : lgT n < 372000 := by
  have := lgI_lt h0 h
  unfold lgT; omega
end Go.Proofs.YtnefgafmnpblpaaGreat.Pn
