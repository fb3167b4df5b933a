/- The reference's numeral of a number: its digits, laid down and turned round. Condition: the number is an int64. -/
import Derived.Test.YtajodbhbmfjmjaaGreatDoorInts
import Derived.Test.YtajodbhbmfjmjaaGreatDoorTxt
import Derived.Laws.IdiomStrings
namespace Go.Proofs.YtajodbhbmfjmjaaGreatDoor
open Go.RowKit Go.Lib

abbrev encU (b : UInt8) : List Value := [.int .u8 (b.toNat : Int)]
abbrev OwnU (w : World) (B : Nat) (v : Value) (xs : List UInt8) : Prop := Own encU 1 5 w B v xs
theorem info_u8 : (Tryz.prog.info? 5).map (fun i => (i.zero, i.size, i.bytes)) = some (some (.int .u8 0), 1, 1) := by kernel_rfl
set_option maxRecDepth 100000 in
theorem wpList_appU {w : World} {ops : Array Oper} {rest : List Oper} {o : Oper} {a : Act} {Q : Exit → Act → World → Prop} (hgd : o.guard = none) (s x : Operand) (ho : o.op = .call { callee := .builtin .append, args := #[s, x], argTypes := #[22, 22] }) (B : Nat) {v : Value} {xs : List UInt8} (hs : a.eval s = v)
    (hown : OwnU w B v xs) {z : Int} (y : UInt8) (hz : z = (y.toNat : Int)) (hx : a.eval x = .slice (some ⟨w.heap.size, 0, none⟩) 1 1) (hn : xs.length ≤ 1048576) (hB : B ≤ w.heap.size)
    (h : ∀ (A : Option Addr) (c : Nat) (w' : World), OwnU w' B (.slice A (xs.length + 1) c) (xs ++ [y]) → Below B w w' → w.grownBy w' v.ownBlock → wpList Tryz.prog ops Q rest (a.put o.dst (.slice A (xs.length + 1) c)) w') : wpList Tryz.prog ops Q (o :: rest) a (w.alloc (.cells #[.int .u8 z] 5)) := by
  subst hz
  obtain ⟨i0, hi, hz0, hz1, hz2⟩ := info_parts info_u8
  have hb0 : Below w.heap.size w (w.alloc (.cells #[.int .u8 (y.toNat : Int)] 5)) := (Below.refl _ _).alloc (Nat.le_refl _) _
  refine wpList_app Tryz.underlying22 hi hz0 hz1 hz2 rfl (by omega) (by omega) (fun _ => rfl) hgd s x ho B hs (hown.below hb0) y (fun u hu => by simp at hu; subst hu; rfl) hx (fun j u hj => ?_) hn (by simp; omega) fun A c w' h1 h2 h3 => h A c w' h1 ((hb0.mono hB).trans h2) (grown_trans (grown_of_below hb0 _) h3)
  match j, hj with
  | 0, hj => injection hj with hj; subst hj; simp [Addr.add]
/-- The digits of a number, the last ahead; none of 0. -/
def revDig (u : Nat) : List UInt8 := if h : u = 0 then [] else UInt8.ofNat (48 + u % 10) :: revDig (u / 10)
termination_by u
decreasing_by omega
theorem revDig_pos {u : Nat} (h : u ≠ 0) : revDig u = UInt8.ofNat (48 + u % 10) :: revDig (u / 10) := by rw [revDig, dif_neg h]
theorem revDig_zero : revDig 0 = [] := by rw [revDig, dif_pos rfl]
theorem revDig_rev (u : Nat) (h : 1 ≤ u) : (revDig u).reverse = decDigits u := by
  induction u using Nat.strongRecOn with
  | _ u ih =>
    rw [revDig_pos (by omega), List.reverse_cons]
    by_cases h9 : u < 10
    · rw [show u / 10 = 0 by omega, revDig_zero, decDigits_one h9, show u % 10 = u by omega]
      rfl
    · rw [ih (u / 10) (by omega) (by omega)]
      conv => rhs; rw [decDigits, dif_neg h9]
theorem revDig_length (u : Nat) (h : u ≤ 9223372036854775808) : (revDig u).length ≤ 19 := by
  by_cases h0 : u = 0
  · rw [h0, revDig_zero]; simp
  · rw [← List.length_reverse, revDig_rev u (by omega)]
    exact (decDigits_len (by decide)).2 (Nat.lt_of_le_of_lt h (by decide))
theorem convU {w : World} {A : Option Addr} {c : Nat} {xs : List UInt8} (h : SlAt encU 1 w A xs) (hn : 0 < xs.length) : (Go.convert 22 9 (.slice A xs.length c)).run Tryz.prog w = .ok (.string ⟨xs.toArray⟩) w := by
  obtain ⟨b, off, rfl, _, _⟩ := h 0 hn
  refine run_convert_bytes_back (P := Tryz.prog) _ _ _ 5 ⟨b, off, none⟩ c xs Tryz.underlying22 Tryz.underlying5 Tryz.underlying9 fun j hj => ?_
  obtain ⟨b2, off2, e, _, hc⟩ := h j hj
  injection e with e
  injection e with e1 e2
  subst e1; subst e2
  have := hc 0 _ rfl
  by_cases h0 : j = 0
  · subst h0
    simpa [Addr.add] using this
  · simpa [Addr.add, h0] using this
theorem slice_len {w : World} {A : Option Addr} {xs : List UInt8} {B c n : Nat} (h : OwnU w B (.slice A n c) xs) (e : xs.length = n) : SlAt encU 1 w A xs := by
  subst e
  exact Own.at_ (fun _ => rfl) h
end Go.Proofs.YtajodbhbmfjmjaaGreatDoor
