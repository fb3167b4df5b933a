/- Plain arithmetic: the nearest quotient and the integer root, no program in sight. -/
namespace Go.Proofs.YtnefgafmnpblpaaGreat.Pl

/-- The nearest integer to a / b (b positive), halves away from nought. -/
def nr (a b : Int) : Int := if 0 ≤ a then (2 * a + b) / (2 * b) else -((b - 2 * a) / (2 * b))

theorem div_of_bounds {x b q : Int} (hb : 0 < b) (h1 : b * q ≤ x) (h2 : x < b * q + b) : x / b = q := by
  have e : x = (x - b * q) + q * b := by rw [Int.mul_comm q b]; omega
  rw [e, Int.add_mul_ediv_right _ _ (by omega), Int.ediv_eq_zero_of_lt (by omega) (by omega)]; omega

theorem half_up {a b : Int} (hb : 0 < b) : (2 * a + b) / (2 * b) = if b - a % b ≤ a % b then a / b + 1 else a / b := by
  have e := Int.mul_ediv_add_emod a b
  have h0 := Int.emod_nonneg a (show b ≠ 0 by omega)
  have h1 := Int.emod_lt_of_pos a hb
  have m1 : 2 * b * (a / b) = 2 * (b * (a / b)) := by rw [Int.mul_assoc]
  have m2 : 2 * b * (a / b + 1) = 2 * (b * (a / b)) + 2 * b := by rw [Int.mul_add, m1]; omega
  split
  · exact div_of_bounds (by omega) (by omega) (by omega)
  · exact div_of_bounds (by omega) (by omega) (by omega)

/-- What the program's nearest reckons at a number not below nought. -/
theorem nr_pos {a b : Int} (ha : 0 ≤ a) (hb : 0 < b) : nr a b = if b - a % b ≤ a % b then a / b + 1 else a / b := by
  unfold nr; rw [if_pos ha]; exact half_up hb
/-- .. and below nought. -/
theorem nr_neg {n b : Int} (hn : 0 < n) (hb : 0 < b) : nr (-n) b = if b - n % b ≤ n % b then -(n / b) - 1 else -(n / b) := by
  unfold nr; rw [if_neg (by omega), show b - 2 * -n = 2 * n + b by omega, half_up hb]
  split <;> omega

theorem nr_nonneg {a b : Int} (ha : 0 ≤ a) (hb : 0 < b) : 0 ≤ nr a b := by
  unfold nr; rw [if_pos ha]; exact Int.ediv_nonneg (by omega) (by omega)
theorem nr_le {a b c : Int} (hb : 0 < b) (h : 2 * a ≤ 2 * b * c) (hc : 0 ≤ c) : nr a b ≤ c := by
  unfold nr
  split
  · have h2 : (2 * a + b) / (2 * b) < c + 1 := Int.ediv_lt_of_lt_mul (by omega) (by rw [Int.mul_comm (c + 1), Int.mul_add]; omega)
    omega
  · have := Int.ediv_nonneg (show 0 ≤ b - 2 * a by omega) (show 0 ≤ 2 * b by omega); omega
theorem nr_mono {a a' b : Int} (hb : 0 < b) (h : a ≤ a') : nr a b ≤ nr a' b := by
  unfold nr
  split
  · rw [if_pos (by omega)]; exact Int.ediv_le_ediv (by omega) (by omega)
  · have h3 := Int.ediv_nonneg (show 0 ≤ b - 2 * a by omega) (show 0 ≤ 2 * b by omega)
    split
    · have := Int.ediv_nonneg (show 0 ≤ 2 * a' + b by omega) (show 0 ≤ 2 * b by omega); omega
    · have := Int.ediv_le_ediv (show 0 < 2 * b by omega) (show b - 2 * a' ≤ b - 2 * a by omega); omega
theorem nr_odd {a b : Int} (hb : 0 < b) : nr (-a) b = -(nr a b) := by
  unfold nr
  by_cases h0 : a = 0
  · subst h0
    have : b / (2 * b) = 0 := Int.ediv_eq_zero_of_lt (by omega) (by omega)
    simp [this]
  · by_cases h : 0 ≤ a
    · rw [if_neg (by omega), if_pos h, show b - 2 * -a = 2 * a + b by omega]
    · rw [if_pos (by omega), if_neg h, show 2 * -a + b = b - 2 * a by omega]; omega

/-- The root, rounded down. -/
def rtN : Nat → Nat
  | 0 => 0
  | n + 1 => if (rtN n + 1) * (rtN n + 1) ≤ n + 1 then rtN n + 1 else rtN n
theorem rtN_spec (n : Nat) : rtN n * rtN n ≤ n ∧ n < (rtN n + 1) * (rtN n + 1) := by
  induction n with
  | zero => simp [rtN]
  | succ n ih =>
    unfold rtN
    split
    · rename_i h
      refine ⟨h, ?_⟩
      have : (rtN n + 1 + 1) * (rtN n + 1 + 1) = (rtN n + 1) * (rtN n + 1) + 2 * (rtN n + 1) + 1 := by
        generalize rtN n + 1 = m
        rw [Nat.add_mul, Nat.mul_add]; omega
      omega
    · exact ⟨by omega, by omega⟩
def rt (n : Int) : Int := (rtN n.toNat : Int)
theorem rt_nonneg (n : Int) : 0 ≤ rt n := by unfold rt; omega
theorem rt_sq {n : Int} (h : 0 ≤ n) : rt n * rt n ≤ n := by
  have := (rtN_spec n.toNat).1
  unfold rt; rw [← Int.natCast_mul]; omega
theorem rt_lt {n : Int} (h : 0 ≤ n) : n < (rt n + 1) * (rt n + 1) := by
  have := (rtN_spec n.toNat).2
  unfold rt; rw [show ((rtN n.toNat : Int) + 1) = ((rtN n.toNat + 1 : Nat) : Int) by omega, ← Int.natCast_mul]; omega
theorem sq_le {x y : Int} (hx : 0 ≤ x) (h : x ≤ y) : x * x ≤ y * y := Int.mul_le_mul h h hx (by omega)
theorem sq_lt {x y : Int} (hy : 0 ≤ y) (h : x * x < y * y) : x < y := by
  rcases Int.lt_or_le x y with h' | h'
  · exact h'
  · have := sq_le hy h'; omega
theorem rt_unique {n r : Int} (h : 0 ≤ n) (hr : 0 ≤ r) (h1 : r * r ≤ n) (h2 : n < (r + 1) * (r + 1)) : rt n = r := by
  have a := rt_sq h
  have b := rt_lt h
  have c := rt_nonneg n
  have d1 := sq_lt (x := rt n) (show 0 ≤ r + 1 by omega) (by omega)
  have d2 := sq_lt (x := r) (show 0 ≤ rt n + 1 by omega) (by omega)
  omega
theorem rt_le_iff {n r : Int} (h : 0 ≤ n) (hr : 0 ≤ r) : r ≤ rt n ↔ r * r ≤ n := by
  have a := rt_sq h
  have b := rt_lt h
  have c := rt_nonneg n
  constructor
  · intro h'; have := sq_le hr h'; omega
  · intro h'
    have d := sq_lt (x := r) (show 0 ≤ rt n + 1 by omega) (by omega)
    omega
theorem rt_mono {n m : Int} (h : n ≤ m) : rt n ≤ rt m := by
  by_cases hn : 0 ≤ n
  · exact (rt_le_iff (by omega) (rt_nonneg n)).2 (by have := rt_sq hn; omega)
  · have e : rt n = 0 := by unfold rt; rw [Int.toNat_of_nonpos (by omega)]; rfl
    rw [e]; exact rt_nonneg m
theorem rt_le {n c : Int} (hc : 0 ≤ c) (h : n ≤ c * c) : rt n ≤ c := by
  by_cases hn : 0 ≤ n
  · have a := rt_sq hn
    have e : (c + 1) * (c + 1) = c * c + 2 * c + 1 := by rw [Int.add_mul, Int.mul_add]; omega
    have b := sq_lt (x := rt n) (show 0 ≤ c + 1 by omega) (by omega)
    omega
  · have e : rt n = 0 := by unfold rt; rw [Int.toNat_of_nonpos (by omega)]; rfl
    omega
theorem rt_lt_of {n c : Int} (hc : 0 < c) (h : n < c * c) : rt n < c := by
  by_cases hn : 0 ≤ n
  · have a := rt_sq hn
    exact sq_lt (by omega) (by omega)
  · have e : rt n = 0 := by unfold rt; rw [Int.toNat_of_nonpos (by omega)]; rfl
    omega
theorem rt_of_neg {n : Int} (h : n ≤ 0) : rt n = 0 := by unfold rt; rw [Int.toNat_of_nonpos h]; rfl

/-- The first number from lo on, among n, of which p says yes. -/
@[irreducible] def firstFrom (p : Int → Bool) : Int → Nat → Option Int
  | _, 0 => none
  | lo, n + 1 => if p lo then some lo else firstFrom p (lo + 1) n
theorem firstFrom_some {p : Int → Bool} {n : Nat} : ∀ {lo r : Int}, lo ≤ r → r < lo + n → p r = true → (∀ j, lo ≤ j → j < r → p j = false) → firstFrom p lo n = some r := by
  induction n with
  | zero => intro lo r h1 h2; omega
  | succ n ih =>
    intro lo r h1 h2 hp hj
    unfold firstFrom
    by_cases e : lo = r
    · subst e; rw [if_pos hp]
    · rw [if_neg (by rw [hj lo (by omega) (by omega)]; simp)]
      exact ih (by omega) (by omega) hp fun j h3 h4 => hj j (by omega) h4
theorem firstFrom_none {p : Int → Bool} {n : Nat} : ∀ {lo : Int}, (∀ j, lo ≤ j → j < lo + n → p j = false) → firstFrom p lo n = none := by
  induction n with
  | zero => intro lo _; unfold firstFrom; rfl
  | succ n ih =>
    intro lo hj
    unfold firstFrom
    rw [if_neg (by rw [hj lo (by omega) (by omega)]; simp)]
    exact ih fun j h3 h4 => hj j (by omega) (by omega)
end Go.Proofs.YtnefgafmnpblpaaGreat.Pl
