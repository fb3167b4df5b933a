/- Plain laws of numbers as texts: which text is a number's numeral, that a list of numbers is read back out of its text, and that splitting a text and joining its parts undo each other. No conditions. -/
import Derived.Lib.ItoaNum
import Derived.Lib.ParseIntBCases
import Derived.Lib.SplitLaws
import Derived.Lib.Join
import Derived.Lib.Atoi
namespace Go.Proofs.YtajodbhbmfjmjaaGreatDoor
open Go.Lib

theorem digitVal_of {b : UInt8} (h : 48 ≤ b.toNat) (h2 : b.toNat ≤ 57) : digitVal b = some (b.toNat - 48) := by
  unfold digitVal
  have : (48 : Nat) ≤ b.toNat := h
  simp [h, h2]
theorem digit_byte {d : Nat} (h : d < 10) : (UInt8.ofNat (48 + d)).toNat = 48 + d := by
  rw [UInt8.toNat_ofNat']
  exact Nat.mod_eq_of_lt (by omega)
theorem byte_digit {b : UInt8} {d : Nat} (h : digitVal b = some d) : b = UInt8.ofNat (48 + d) ∧ d < 10 := by
  obtain ⟨h1, h2, h3⟩ := digitVal_eq h
  refine ⟨?_, by omega⟩
  apply UInt8.toNat_inj.1
  rw [digit_byte (by omega)]
  omega
theorem digitVal_byte {d : Nat} (h : d < 10) : digitVal (UInt8.ofNat (48 + d)) = some d := by
  rw [digitVal_of (by rw [digit_byte h]; omega) (by rw [digit_byte h]; omega), digit_byte h]
  congr 1
  omega
theorem decFrom_snoc (b : UInt8) : ∀ (l : List UInt8) (acc : Nat), decFrom acc (l ++ [b]) = (decFrom acc l).bind fun n => (digitVal b).map fun d => n * 10 + d
  | [], acc => by
    simp only [List.nil_append, decFrom, Option.bind_some]
    cases digitVal b <;> rfl
  | c :: l, acc => by
    simp only [List.cons_append, decFrom]
    cases digitVal c with
    | none => rfl
    | some d => exact decFrom_snoc b l _
theorem decDigits_step {m d : Nat} (h : 1 ≤ m) (hd : d < 10) : decDigits (m * 10 + d) = decDigits m ++ [UInt8.ofNat (48 + d)] := by
  rw [decDigits, dif_neg (by omega), show (m * 10 + d) / 10 = m by omega, show (m * 10 + d) % 10 = d by omega]
theorem decFrom_digits (m : Nat) : decFrom 0 (decDigits m) = some m := by
  induction m using Nat.strongRecOn with
  | _ m ih =>
    by_cases h : m < 10
    · rw [decDigits_one h]
      simp only [decFrom, digitVal_byte h]
      simp
    · rw [decDigits, dif_neg h, decFrom_snoc, ih (m / 10) (by omega), digitVal_byte (by omega)]
      simp only [Option.bind_some, Option.map_some]
      congr 1
      omega
theorem decDigits_ne (m : Nat) : decDigits m ≠ [] := by
  intro e
  have := decDigits_length m
  rw [e] at this
  have := nDigits_pos m
  simp at *
  omega
theorem decDigits_head (m : Nat) (h : 1 ≤ m) : (decDigits m).head? ≠ some 48 := by
  induction m using Nat.strongRecOn with
  | _ m ih =>
    by_cases h9 : m < 10
    · rw [decDigits_one h9]
      intro e
      simp only [List.head?_cons, Option.some.injEq] at e
      have := congrArg UInt8.toNat e
      rw [digit_byte h9] at this
      simp at this
      omega
    · rw [decDigits, dif_neg h9, List.head?_append]
      have := ih (m / 10) (by omega) (by omega)
      cases hh : (decDigits (m / 10)).head? with
      | none => rw [List.head?_eq_none_iff] at hh; exact absurd hh (decDigits_ne _)
      | some c => rw [hh] at this; simpa using this
/-- A row of digits that does not begin with a zero, or is one digit, is the numeral of what it spells. -/
theorem digits_of_dec : ∀ (k : Nat) (r : List UInt8) (m : Nat), r.length = k → r ≠ [] → (r.head? ≠ some 48 ∨ r.length = 1) → decFrom 0 r = some m → decDigits m = r ∧ (r.head? ≠ some 48 → 1 ≤ m) := by
  intro k
  induction k with
  | zero => intro r m hk hr; exact absurd (List.eq_nil_of_length_eq_zero hk) hr
  | succ k ih =>
    intro r m hk hr hz hd
    obtain h | ⟨q, b, rfl⟩ := List.eq_nil_or_concat r
    · exact absurd h hr
    · simp only [List.concat_eq_append] at *
      rw [decFrom_snoc] at hd
      cases hq : decFrom 0 q with
      | none => rw [hq] at hd; simp at hd
      | some n =>
        rw [hq] at hd
        cases hb : digitVal b with
        | none => rw [hb] at hd; simp at hd
        | some d =>
          rw [hb] at hd
          simp only [Option.bind_some, Option.map_some, Option.some.injEq] at hd
          obtain ⟨e, hd9⟩ := byte_digit hb
          cases q with
          | nil =>
            simp only [decFrom, Option.some.injEq] at hq
            subst hq
            subst hd
            rw [show 0 * 10 + d = d by omega, decDigits_one hd9, e]
            refine ⟨rfl, fun h => ?_⟩
            rcases Nat.eq_zero_or_pos d with h0 | h0
            · exact absurd (by simp [h0]) h
            · exact h0
          | cons c q =>
            have hz' : (c :: q).head? ≠ some 48 := by
              rcases hz with hz | hz
              · simpa using hz
              · simp at hz
            obtain ⟨h1, h2⟩ := ih (c :: q) n (by simpa using hk) (by simp) (Or.inl hz') hq
            have h3 := h2 hz'
            subst hd
            rw [decDigits_step h3 hd9, h1, e]
            exact ⟨rfl, fun _ => by omega⟩
theorem decDigits_len {m k : Nat} (hk : 1 ≤ k) : (decDigits m).length ≤ k ↔ m < 10 ^ k := by
  rw [decDigits_length]
  constructor
  · intro h
    exact Nat.lt_of_lt_of_le (lt_pow_nDigits m) (Nat.pow_le_pow_right (by decide) h)
  · intro h
    induction k generalizing m with
    | zero => omega
    | succ k ih =>
      by_cases h9 : m < 10
      · rw [nDigits_small h9]; omega
      · rw [nDigits_big h9]
        rcases Nat.eq_zero_or_pos k with h0 | h0
        · subst h0; omega
        · have := ih (m := m / 10) h0 (by rw [Nat.pow_succ] at h; omega)
          omega

/-- The number that at most 18 digits spell, as a numeral. -/
def natO (r : List UInt8) : Option Nat := if r.length = 0 ∨ 18 < r.length ∨ (r.head? = some 48 ∧ 1 < r.length) then none else decFrom 0 r
/-- The number with a numeral of at most 18 digits. -/
def numO (l : List UInt8) : Option Int := if l.head? = some 45 then (if l.tail.head? = some 48 then none else (natO l.tail).map fun m : Nat => -(m : Int)) else (natO l).map fun m : Nat => (m : Int)

theorem natO_iff (r : List UInt8) (m : Nat) : natO r = some m ↔ decDigits m = r ∧ m < 10 ^ 18 := by
  unfold natO
  constructor
  · intro h
    split at h
    · simp at h
    · rename_i hn
      simp only [not_or, not_and] at hn
      obtain ⟨h1, h2, h3⟩ := hn
      have hr : r ≠ [] := fun e => h1 (by simp [e])
      have := digits_of_dec r.length r m rfl hr (by
        by_cases hh : r.head? = some 48
        · exact Or.inr (by have := h3 hh; have := List.length_pos_iff.2 hr; omega)
        · exact Or.inl hh) h
      refine ⟨this.1, (decDigits_len (by decide)).1 ?_⟩
      rw [this.1]
      omega
  · rintro ⟨rfl, h⟩
    rw [if_neg]
    · exact decFrom_digits m
    · simp only [not_or, not_and]
      refine ⟨?_, ?_, ?_⟩
      · intro e; exact decDigits_ne m (List.eq_nil_of_length_eq_zero e)
      · have := (decDigits_len (m := m) (k := 18) (by decide)).2 h
        omega
      · intro e
        rcases Nat.eq_zero_or_pos m with h0 | h0
        · subst h0; rw [decDigits_one (by decide)]; simp
        · exact absurd e (decDigits_head m h0)
theorem decDigits_no {m : Nat} {c : UInt8} (h : c ∈ decDigits m) : 48 ≤ c.toNat ∧ c.toNat ≤ 57 := by
  induction m using Nat.strongRecOn with
  | _ m ih =>
    by_cases h9 : m < 10
    · rw [decDigits_one h9] at h
      simp only [List.mem_singleton] at h
      rw [h, digit_byte h9]
      omega
    · rw [decDigits, dif_neg h9, List.mem_append] at h
      rcases h with h | h
      · exact ih _ (by omega) h
      · simp only [List.mem_singleton] at h
        rw [h, digit_byte (by omega)]
        omega
theorem decDigits_sign (m : Nat) : (decDigits m).head? ≠ some 45 := by
  intro e
  have := decDigits_no (List.mem_of_head? e)
  simp at this
theorem itoa_nat (m : Nat) : itoa (m : Int) = decDigits m := by
  unfold itoa
  rw [if_neg (by omega)]
  congr 1
theorem itoa_neg {m : Nat} (h : 1 ≤ m) : itoa (-(m : Int)) = 45 :: decDigits m := by
  unfold itoa
  rw [if_pos (by omega)]
  congr 2
  omega
theorem numO_iff (l : List UInt8) (n : Int) : numO l = some n ↔ itoa n = l ∧ -1000000000000000000 < n ∧ n < 1000000000000000000 := by
  have e18 : (10 : Nat) ^ 18 = 1000000000000000000 := by decide
  unfold numO
  constructor
  · intro h
    split at h
    · rename_i hs
      split at h
      · simp at h
      · rename_i hz
        cases hm : natO l.tail with
        | none => rw [hm] at h; simp at h
        | some m =>
          rw [hm] at h
          simp only [Option.map_some, Option.some.injEq] at h
          obtain ⟨h1, h2⟩ := (natO_iff _ _).1 hm
          have h0 : 1 ≤ m := by
            rcases Nat.eq_zero_or_pos m with h0 | h0
            · subst h0; rw [decDigits_one (by decide)] at h1; rw [← h1] at hz; simp at hz
            · exact h0
          subst h
          rw [itoa_neg h0, h1]
          refine ⟨?_, by omega, by omega⟩
          cases l with
          | nil => simp at hs
          | cons c r => simp only [List.head?_cons, Option.some.injEq] at hs; simp [hs]
    · cases hm : natO l with
      | none => rw [hm] at h; simp at h
      | some m =>
        rw [hm] at h
        simp only [Option.map_some, Option.some.injEq] at h
        obtain ⟨h1, h2⟩ := (natO_iff _ _).1 hm
        subst h
        rw [itoa_nat, h1]
        exact ⟨rfl, by omega, by omega⟩
  · rintro ⟨rfl, h1, h2⟩
    by_cases h : n < 0
    · obtain ⟨m, rfl⟩ : ∃ m : Nat, n = -(m : Int) := ⟨n.natAbs, by omega⟩
      rw [itoa_neg (by omega)]
      rw [if_pos (by rfl), if_neg (show ¬ (List.tail (45 :: decDigits m)).head? = some 48 from decDigits_head m (by omega)), show (45 :: decDigits m).tail = decDigits m from rfl, (natO_iff _ m).2 ⟨rfl, by omega⟩]
      rfl
    · obtain ⟨m, rfl⟩ : ∃ m : Nat, n = (m : Int) := ⟨n.toNat, by omega⟩
      rw [itoa_nat, if_neg (decDigits_sign m), (natO_iff _ m).2 ⟨rfl, by omega⟩]
      rfl
theorem itoa_inj {a b : Int} (h : itoa a = itoa b) : a = b := by
  unfold itoa at h
  split at h <;> split at h
  · simp only [List.cons.injEq, true_and] at h
    have h1 := decFrom_digits a.natAbs
    rw [h, decFrom_digits] at h1
    simp only [Option.some.injEq] at h1
    omega
  · have := decDigits_sign b.toNat
    rw [← h] at this
    simp at this
  · have := decDigits_sign a.toNat
    rw [h] at this
    simp at this
  · have h1 := decFrom_digits a.toNat
    rw [h, decFrom_digits] at h1
    simp only [Option.some.injEq] at h1
    omega
theorem itoa_no {n : Int} {c : UInt8} (h : c ∈ itoa n) : c = 45 ∨ (48 ≤ c.toNat ∧ c.toNat ≤ 57) := by
  unfold itoa at h
  split at h
  · simp only [List.mem_cons] at h
    exact h.imp id decDigits_no
  · exact Or.inr (decDigits_no h)
theorem itoa_ne (n : Int) : itoa n ≠ [] := by
  unfold itoa
  split
  · simp
  · exact decDigits_ne _
/-- The digits behind a sign. -/
def trimO (l : List UInt8) : List UInt8 := if l.head? = some 45 then l.tail else l
theorem numO_short {l : List UInt8} (h : (trimO l).length = 0 ∨ 18 < (trimO l).length) : numO l = none := by
  unfold trimO at h
  unfold numO natO
  split
  · rename_i hs
    rw [if_pos hs] at h
    split
    · rfl
    · rw [if_pos (by rcases h with h | h; exact Or.inl h; exact Or.inr (Or.inl h))]
      rfl
  · rename_i hs
    rw [if_neg hs] at h
    rw [if_pos (by rcases h with h | h; exact Or.inl h; exact Or.inr (Or.inl h))]
    rfl
theorem numO_room {l : List UInt8} {n : Int} (h : numO l = some n) : 1 ≤ (trimO l).length ∧ (trimO l).length ≤ 18 := by
  constructor
  · rcases Nat.eq_zero_or_pos (trimO l).length with h0 | h0
    · rw [numO_short (Or.inl h0)] at h; simp at h
    · exact h0
  · rcases Nat.lt_or_ge 18 (trimO l).length with h0 | h0
    · rw [numO_short (Or.inr h0)] at h; simp at h
    · exact h0
theorem trimO_itoa (n : Int) : trimO (itoa n) = decDigits n.natAbs := by
  unfold itoa
  by_cases hn : n < 0
  · rw [if_pos hn]
    unfold trimO
    simp
  · rw [if_neg hn]
    unfold trimO
    rw [if_neg (decDigits_sign _)]
    congr 1
    omega
/-- A numeral of at most 18 digits is a number's. -/
theorem numO_of {l : List UInt8} {n : Int} (h : itoa n = l) (hl : (trimO l).length ≤ 18) : numO l = some n := by
  subst h
  rw [trimO_itoa] at hl
  have := (decDigits_len (m := n.natAbs) (k := 18) (by decide)).1 hl
  have e18 : (10 : Nat) ^ 18 = 1000000000000000000 := by decide
  exact (numO_iff _ _).2 ⟨rfl, by omega, by omega⟩
theorem decFrom_ge : ∀ (l : List UInt8) (acc m : Nat), decFrom acc l = some m → acc ≤ m
  | [], acc, m, h => by simp only [decFrom, Option.some.injEq] at h; omega
  | c :: l, acc, m, h => by
    simp only [decFrom] at h
    cases hd : digitVal c with
    | none => rw [hd] at h; simp at h
    | some d => rw [hd] at h; have := decFrom_ge l _ m h; omega
theorem parseUintM_dec : ∀ (l : List UInt8) (acc m : Nat), decFrom acc l = some m → m < 1000000000000000000 → parseUintM (2 ^ 64 - 1) acc l = .ok m
  | [], acc, m, h, _ => by simp only [decFrom, Option.some.injEq] at h; rw [h]; rfl
  | c :: l, acc, m, h, hm => by
    simp only [decFrom] at h
    cases hd : digitVal c with
    | none => rw [hd] at h; simp at h
    | some d =>
      rw [hd] at h
      have h0 := decFrom_ge l _ m h
      obtain ⟨h1, h2, h3⟩ := digitVal_eq hd
      unfold parseUintM
      rw [if_pos ⟨h1, h2⟩, if_neg (by omega), if_neg (by omega), ← h3]
      exact parseUintM_dec l _ m h hm
/-- The library reads a number back out of its numeral. -/
theorem parse_itoa {n : Int} (h1 : -1000000000000000000 < n) (h2 : n < 1000000000000000000) : parseIntB 64 (itoa n) = .ok n := by
  have hp : ∀ m : Nat, m < 1000000000000000000 → parseUintB 64 (decDigits m) = .ok m := by
    intro m hm
    unfold parseUintB
    rw [if_neg (decDigits_ne m)]
    exact parseUintM_dec _ 0 m (decFrom_digits m) hm
  by_cases h : n < 0
  · obtain ⟨m, rfl⟩ : ∃ m : Nat, n = -(m : Int) := ⟨n.natAbs, by omega⟩
    rw [itoa_neg (by omega), parseIntB_minus, hp m (by omega)]
    unfold signedC
    simp only
    rw [if_neg (by omega)]
  · obtain ⟨m, rfl⟩ : ∃ m : Nat, n = (m : Int) := ⟨n.toNat, by omega⟩
    rw [itoa_nat]
    cases hd : decDigits m with
    | nil => exact absurd hd (decDigits_ne m)
    | cons c r =>
      have hc := decDigits_no (m := m) (c := c) (by rw [hd]; simp)
      rw [parseIntB_plain _ _ _ (by omega) (by omega), ← hd, hp m (by omega)]
      unfold signlessC
      simp only
      rw [if_neg (by omega)]

/-! Splitting and joining. -/
/-- The parts of a text between a byte. -/
def splitL (c : UInt8) : List UInt8 → List (List UInt8)
  | [] => [[]]
  | b :: l => if b = c then [] :: splitL c l else ((b :: (splitL c l).headD []) :: (splitL c l).tail)
theorem splitL_ne (c : UInt8) (l : List UInt8) : splitL c l ≠ [] := by
  cases l with
  | nil => simp [splitL]
  | cons b l => unfold splitL; split <;> simp
theorem splitL_other {c : UInt8} : ∀ (a l : List UInt8), c ∉ a → splitL c (a ++ l) = (a ++ (splitL c l).headD []) :: (splitL c l).tail
  | [], l, _ => by
    simp only [List.nil_append]
    cases h : splitL c l with
    | nil => exact absurd h (splitL_ne c l)
    | cons p q => rfl
  | b :: a, l, h => by
    simp only [List.mem_cons, not_or] at h
    rw [List.cons_append, splitL, if_neg (Ne.symm h.1), splitL_other a l h.2]
    simp
theorem splitL_hit {c : UInt8} (a l : List UInt8) (h : c ∉ a) : splitL c (a ++ c :: l) = a :: splitL c l := by
  rw [splitL_other a _ h, splitL, if_pos rfl]
  simp
theorem splitL_one {c : UInt8} {a : List UInt8} (h : c ∉ a) : splitL c a = [a] := by
  have := splitL_other a [] h
  simpa [splitL] using this
theorem splitL_no {c : UInt8} : ∀ (l y : List UInt8), y ∈ splitL c l → c ∉ y
  | [], y, h => by simp only [splitL, List.mem_singleton] at h; simp [h]
  | b :: l, y, h => by
    unfold splitL at h
    split at h
    · simp only [List.mem_cons] at h
      rcases h with h | h
      · simp [h]
      · exact splitL_no l y h
    · rename_i hb
      simp only [List.mem_cons] at h
      rcases h with h | h
      · subst h
        simp only [List.mem_cons, not_or]
        refine ⟨Ne.symm hb, ?_⟩
        cases hs : splitL c l with
        | nil => simp
        | cons p q => exact splitL_no l p (by rw [hs]; simp)
      · exact splitL_no l y (List.mem_of_mem_tail h)
theorem join_cons2 (x y : List UInt8) (ys : List (List UInt8)) (s : List UInt8) : Lib.join (x :: y :: ys) s = x ++ (s ++ Lib.join (y :: ys) s) := by
  rw [Lib.join_cons, Lib.join_cons]
  simp [Lib.joinTail]
theorem join_split (c : UInt8) : ∀ l : List UInt8, Lib.join (splitL c l) [c] = l
  | [] => by simp [splitL, Lib.join_one]
  | b :: l => by
    have ih := join_split c l
    unfold splitL
    cases hs : splitL c l with
    | nil => exact absurd hs (splitL_ne c l)
    | cons p q =>
      rw [hs] at ih
      split
      · rename_i hb
        rw [join_cons2, ih, hb]
        simp
      · simp only [List.headD_cons, List.tail_cons]
        cases q with
        | nil => rw [Lib.join_one] at ih ⊢; rw [ih]
        | cons q0 q => rw [join_cons2] at ih ⊢; rw [← ih]; simp
theorem split_join {c : UInt8} : ∀ ys : List (List UInt8), ys ≠ [] → (∀ y ∈ ys, c ∉ y) → splitL c (Lib.join ys [c]) = ys
  | [], h, _ => absurd rfl h
  | [y], _, h => by rw [Lib.join_one]; exact splitL_one (h y (by simp))
  | y :: z :: ys, _, h => by
    rw [join_cons2, List.singleton_append, splitL_hit _ _ (h y (by simp)), split_join (z :: ys) (by simp) fun u hu => h u (by simp [hu])]
theorem index_one (c : UInt8) : ∀ l : List UInt8, (c ∉ l ∧ index l [c] = -1) ∨ ∃ a r, l = a ++ c :: r ∧ c ∉ a ∧ index l [c] = (a.length : Int)
  | [] => Or.inl ⟨by simp, by simp [index]⟩
  | b :: l => by
    by_cases h : b = c
    · subst h
      refine Or.inr ⟨[], l, rfl, by simp, ?_⟩
      rw [index]; simp [List.isPrefixOf]
    · have hp : ([c] : List UInt8).isPrefixOf (b :: l) = false := by simp [List.isPrefixOf, Ne.symm h]
      have hix : index (b :: l) [c] = if index l [c] == -1 then -1 else index l [c] + 1 := by rw [index, hp]; simp
      rcases index_one c l with ⟨h1, h2⟩ | ⟨a, r, rfl, h1, h2⟩
      · refine Or.inl ⟨by simp [h1, Ne.symm h], ?_⟩
        rw [hix, h2]; rfl
      · refine Or.inr ⟨b :: a, r, by simp, by simp [h1, Ne.symm h], ?_⟩
        rw [hix, h2]
        have : ¬ ((a.length : Int) == -1) = true := by simp
        rw [if_neg this]
        simp
theorem split_eq (c : UInt8) : ∀ (k : Nat) (l : List UInt8), count l [c] = k → splitK [c] 0 k l = splitL c l
  | 0, l, h => by
    rw [count_one] at h
    rw [splitK, splitL_one (List.count_eq_zero.1 h)]
  | k + 1, l, h => by
    rcases index_one c l with ⟨h1, h2⟩ | ⟨a, r, rfl, h1, h2⟩
    · rw [count_one, List.count_eq_zero.2 h1] at h; omega
    · have hr : count r [c] = k := by
        rw [count_one] at h ⊢
        rw [List.count_append, List.count_eq_zero.2 h1, List.count_cons_self] at h
        omega
      unfold splitK
      rw [h2]
      have : ¬ ((a.length : Int) == -1) = true := by simp
      rw [if_neg this, splitL_hit _ _ h1]
      have e : (a.length : Int).toNat = a.length := by omega
      rw [e]
      have e2 : (a ++ c :: r).drop (a.length + [c].length) = r := by simp
      rw [e2, split_eq c k r hr]
      simp

/-! Lists of numbers. -/
/-- A number that a list may hold. -/
def isVal (n : Int) : Bool := decide (-1000000000000 ≤ n) && decide (n ≤ 1000000000000)
theorem isVal_true {n : Int} (h : isVal n = true) : -1000000000000 ≤ n ∧ n ≤ 1000000000000 := by unfold isVal at h; simpa using h
def rowText (xs : List Int) : List UInt8 := if xs = [] then [45] else Lib.join (xs.map itoa) [44]
/-- The text of a list of numbers. -/
def listText (xs : List Int) : List UInt8 := if 64 < xs.length ∨ xs.all isVal = false then [] else rowText xs
def allO {α : Type} (f : List UInt8 → Option α) : List (List UInt8) → Option (List α)
  | [] => some []
  | p :: ps => match f p, allO f ps with
    | some x, some xs => some (x :: xs)
    | _, _ => none
def valO (l : List UInt8) : Option Int := match numO l with | some n => if isVal n = true then some n else none | none => none
/-- The list of numbers with a text. -/
def listO (l : List UInt8) : Option (List Int) := if l = [45] then some [] else if 64 < (splitL 44 l).length then none else allO valO (splitL 44 l)
theorem itoa_comma (n : Int) : (44 : UInt8) ∉ itoa n := by
  intro h
  rcases itoa_no h with h | h
  · simp at h
  · simp at h
theorem itoa_blank (n : Int) : (32 : UInt8) ∉ itoa n := by
  intro h
  rcases itoa_no h with h | h
  · simp at h
  · simp at h
theorem itoa_at (n : Int) : (64 : UInt8) ∉ itoa n := by
  intro h
  rcases itoa_no h with h | h
  · simp at h
  · simp at h
theorem valO_iff (p : List UInt8) (n : Int) : valO p = some n ↔ itoa n = p ∧ isVal n = true := by
  unfold valO
  constructor
  · intro h
    cases hn : numO p with
    | none => rw [hn] at h; simp at h
    | some m =>
      rw [hn] at h
      simp only at h
      split at h
      · simp only [Option.some.injEq] at h
        subst h
        exact ⟨((numO_iff _ _).1 hn).1, by assumption⟩
      · simp at h
  · rintro ⟨rfl, h⟩
    have := isVal_true h
    rw [(numO_iff (itoa n) n).2 ⟨rfl, by omega, by omega⟩]
    simp [h]
theorem allO_iff {α : Type} {f : List UInt8 → Option α} : ∀ (ps : List (List UInt8)) (xs : List α), allO f ps = some xs ↔ ps.length = xs.length ∧ ∀ (j : Nat) p x, ps[j]? = some p → xs[j]? = some x → f p = some x
  | [], xs => by
    simp only [allO, Option.some.injEq, List.length_nil]
    constructor
    · rintro rfl; exact ⟨rfl, by simp⟩
    · rintro ⟨h, _⟩; exact (List.eq_nil_of_length_eq_zero h.symm).symm
  | p :: ps, xs => by
    unfold allO
    constructor
    · intro h
      cases hp : f p with
      | none => rw [hp] at h; simp at h
      | some x =>
        cases hq : allO f ps with
        | none => rw [hp, hq] at h; simp at h
        | some ys =>
          rw [hp, hq] at h
          simp only [Option.some.injEq] at h
          subst h
          obtain ⟨h1, h2⟩ := (allO_iff ps ys).1 hq
          refine ⟨by simp [h1], fun j q y hj hy => ?_⟩
          cases j with
          | zero => simp only [List.getElem?_cons_zero, Option.some.injEq] at hj hy; subst hj; subst hy; exact hp
          | succ j => exact h2 j q y (by simpa using hj) (by simpa using hy)
    · rintro ⟨h1, h2⟩
      cases xs with
      | nil => simp at h1
      | cons x ys =>
        rw [h2 0 p x rfl rfl, (allO_iff ps ys).2 ⟨by simpa using h1, fun j q y hj hy => h2 (j + 1) q y (by simpa using hj) (by simpa using hy)⟩]
theorem allO_vals (ps : List (List UInt8)) (xs : List Int) : allO valO ps = some xs ↔ ps = xs.map itoa ∧ xs.all isVal = true := by
  rw [allO_iff]
  constructor
  · rintro ⟨h1, h2⟩
    constructor
    · apply List.ext_getElem (by simpa using h1)
      intro j hj hj2
      have := (valO_iff _ _).1 (h2 j ps[j] (xs[j]'(by omega)) (List.getElem?_eq_getElem hj) (List.getElem?_eq_getElem (by omega)))
      simp [this.1]
    · rw [List.all_eq_true]
      intro x hx
      obtain ⟨j, hj, rfl⟩ := List.getElem_of_mem hx
      exact ((valO_iff _ _).1 (h2 j (ps[j]'(by omega)) xs[j] (List.getElem?_eq_getElem (by omega)) (List.getElem?_eq_getElem hj))).2
  · rintro ⟨rfl, h⟩
    refine ⟨by simp, fun j p x hp hx => ?_⟩
    rw [List.getElem?_map, hx] at hp
    simp only [Option.map_some, Option.some.injEq] at hp
    rw [List.all_eq_true] at h
    exact (valO_iff _ _).2 ⟨hp, h x (List.mem_of_getElem? hx)⟩
theorem itoa_ne_minus (n : Int) : itoa n ≠ [45] := by
  intro e
  unfold itoa at e
  split at e
  · simp only [List.cons.injEq, true_and] at e
    exact decDigits_ne _ e
  · have := decDigits_sign n.toNat
    rw [e] at this
    simp at this
theorem join_minus {xs : List Int} (h : Lib.join (xs.map itoa) [44] = [45]) : False := by
  cases xs with
  | nil => simp [Lib.join_nil] at h
  | cons x xs =>
    have hs := split_join (c := 44) ((x :: xs).map itoa) (by simp) (by intro y hy; simp only [List.mem_map] at hy; obtain ⟨n, _, rfl⟩ := hy; exact itoa_comma n)
    rw [h, splitL_one (by decide)] at hs
    simp only [List.map_cons, List.cons.injEq] at hs
    exact itoa_ne_minus x hs.1.symm
/-- What reads a list hands back, out of its parts. -/
def partsOf (l : List UInt8) : List Int := (splitL 44 l).map fun p => (numO p).getD 0
theorem partsOf_ne (l : List UInt8) : partsOf l ≠ [] := by unfold partsOf; simp [splitL_ne]
theorem listO_some {l : List UInt8} {xs : List Int} (h : listO l = some xs) : listText xs = l ∧ (l ≠ [45] → partsOf l = xs) := by
  unfold listO at h
  split at h
  · rename_i e
    simp only [Option.some.injEq] at h
    subst h
    exact ⟨by simp [listText, rowText, e], fun h => absurd e h⟩
  · split at h
    · simp at h
    · rename_i e hn
      obtain ⟨h1, h2⟩ := (allO_vals _ _).1 h
      have hne : xs ≠ [] := by rintro rfl; exact splitL_ne 44 l (by simpa using h1)
      have hl : xs.length = (splitL 44 l).length := by rw [h1]; simp
      constructor
      · unfold listText rowText
        rw [if_neg (by simp [h2]; omega), if_neg hne, ← h1, join_split]
      · intro _
        unfold partsOf
        rw [h1, List.map_map]
        conv => rhs; rw [← List.map_id xs]
        apply List.map_congr_left
        intro x hx
        rw [List.all_eq_true] at h2
        have := isVal_true (h2 x hx)
        simp only [Function.comp_apply, id]
        rw [(numO_iff (itoa x) x).2 ⟨rfl, by omega, by omega⟩]
        rfl
theorem listO_of {l : List UInt8} (h : l ≠ [45]) (ht : listText (partsOf l) = l) : listO l = some (partsOf l) := by
  unfold listText at ht
  split at ht
  · rename_i hc
    subst ht
    simp [partsOf, splitL, isVal, numO, natO] at hc
  · rename_i hc
    simp only [not_or, Bool.not_eq_false] at hc
    unfold rowText at ht
    rw [if_neg (partsOf_ne l)] at ht
    have hs := split_join (c := 44) ((partsOf l).map itoa) (by simp [partsOf_ne]) (by intro y hy; simp only [List.mem_map] at hy; obtain ⟨n, _, rfl⟩ := hy; exact itoa_comma n)
    rw [ht] at hs
    unfold listO
    rw [if_neg h, if_neg (by rw [hs, List.length_map]; omega)]
    exact (allO_vals _ _).2 ⟨hs, hc.2⟩
theorem listO_none {l : List UInt8} (h : l ≠ [45]) (ht : listText (partsOf l) ≠ l) : listO l = none := by
  cases hl : listO l with
  | none => rfl
  | some xs =>
    obtain ⟨h1, h2⟩ := listO_some hl
    rw [h2 h] at ht
    exact absurd h1 ht
theorem rowText_blank (xs : List Int) : (32 : UInt8) ∉ rowText xs := by
  unfold rowText
  split
  · decide
  · intro h
    have : ∀ ys : List Int, (32 : UInt8) ∉ Lib.join (ys.map itoa) [44] := by
      intro ys
      induction ys with
      | nil => simp [Lib.join_nil]
      | cons y ys ih =>
        cases ys with
        | nil => simpa [Lib.join_one] using itoa_blank y
        | cons z ys =>
          simp only [List.map_cons] at ih ⊢
          rw [join_cons2]
          simp only [List.mem_append, not_or]
          exact ⟨itoa_blank y, by simp, ih⟩
    exact this xs h
theorem listText_blank (xs : List Int) : (32 : UInt8) ∉ listText xs := by
  unfold listText
  split
  · simp
  · exact rowText_blank xs
theorem listText_vals {xs : List Int} (h : xs.length ≤ 64) (hv : xs.all isVal = true) : listText xs = rowText xs := by
  unfold listText
  rw [if_neg (by simp [hv]; omega)]
/-- A name and a list of numbers, between them a blank: read by the parts, and read by the first blank. -/
def wordsO (l : List UInt8) (k : Nat) : Option (List UInt8 × List Int) := match splitL 32 l with
  | [a, b] => match listO b with | some xs => if xs.length = k then some (a, xs) else none | none => none
  | _ => none
def headL (l : List UInt8) : List UInt8 := (Lib.cut l [32]).1
def restL (l : List UInt8) : List UInt8 := (Lib.cut l [32]).2.1
theorem listO_empty : listO [] = none := by decide +kernel
theorem words_cut (l : List UInt8) (k : Nat) : wordsO l k = match listO (restL l) with | some xs => if xs.length = k then some (headL l, xs) else none | none => none := by
  unfold wordsO restL headL Lib.cut
  rcases index_one 32 l with ⟨h1, h2⟩ | ⟨a, r, rfl, h1, h2⟩
  · rw [splitL_one h1, if_neg (by rw [h2]; decide), listO_empty]
  · rw [splitL_hit _ _ h1, if_pos (by rw [h2]; omega), h2]
    have e : (a.length : Int).toNat = a.length := by omega
    simp only [e]
    have e1 : (a ++ 32 :: r).take a.length = a := by simp
    have e2 : (a ++ 32 :: r).drop (a.length + [(32 : UInt8)].length) = r := by simp
    rw [e1, e2]
    cases hr : listO r with
    | none =>
      cases hs : splitL 32 r with
      | nil => exact absurd hs (splitL_ne _ _)
      | cons p q =>
        cases q with
        | nil =>
          have : p = r := by have := join_split 32 r; rw [hs, Lib.join_one] at this; exact this
          subst this
          simp [hr]
        | cons q0 q => rfl
    | some xs =>
      have hb : (32 : UInt8) ∉ r := by rw [← (listO_some hr).1]; exact listText_blank xs
      rw [splitL_one hb]
      simp [hr]
theorem words_text {l : List UInt8} {k : Nat} {a : List UInt8} {xs : List Int} (h : wordsO l k = some (a, xs)) : l = a ++ 32 :: listText xs ∧ xs.length = k := by
  unfold wordsO at h
  cases hs : splitL 32 l with
  | nil => exact absurd hs (splitL_ne _ _)
  | cons p q =>
    cases q with
    | nil => rw [hs] at h; simp at h
    | cons q0 q =>
      cases q with
      | cons q1 q => rw [hs] at h; simp at h
      | nil =>
        rw [hs] at h
        simp only at h
        cases hl : listO q0 with
        | none => rw [hl] at h; simp at h
        | some ys =>
          rw [hl] at h
          simp only at h
          split at h
          · simp only [Option.some.injEq, Prod.mk.injEq] at h
            obtain ⟨rfl, rfl⟩ := h
            refine ⟨?_, by assumption⟩
            have := join_split 32 l
            rw [hs, join_cons2, Lib.join_one] at this
            rw [← this, (listO_some hl).1]
            simp
          · simp at h
end Go.Proofs.YtajodbhbmfjmjaaGreatDoor
