/- The laws' marks: markText, and the marks of slices of structs. -/
import Derived.Test.YtobcjhbfkanakaaDoorInts
import Derived.Laws.IdiomStrings
import Derived.Laws.Concat
namespace Go.Proofs.YtobcjhbfkanakaaDoor
open Go.RowKit

/-- The decimal digits. -/
def dgs (n : Nat) : List UInt8 := if n = 0 then [] else dgs (n / 10) ++ [UInt8.ofNat (48 + n % 10)]
termination_by n
decreasing_by omega
theorem dgs_zero : dgs 0 = [] := by rw [dgs]; simp
theorem dgs_pos {n : Nat} (h : 0 < n) : dgs n = dgs (n / 10) ++ [UInt8.ofNat (48 + n % 10)] := by rw [dgs]; simp [show ¬ n = 0 by omega]
theorem dgs_len (n : Nat) : (dgs n).length ≤ n := by
  induction n using Nat.strongRecOn with
  | _ n ih =>
    by_cases h : n = 0
    · subst h; simp [dgs_zero]
    · rw [dgs_pos (by omega), List.length_append]
      have := ih (n / 10) (by omega)
      simp
      omega
theorem ret_str {a b : ByteArray} (h : a = b) : Ending.returned (.string a) = .returned (.string b) := by rw [h]
/-- The mark's text. -/
def mText (k : Int) : ByteArray := ⟨(109 :: dgs k.toNat).toArray⟩
theorem mk_app (a b : List UInt8) : (⟨a.toArray⟩ : ByteArray) ++ ⟨b.toArray⟩ = ⟨(a ++ b).toArray⟩ := ByteArray.mk_append_mk a b
def mkLoad (k : Int) : LoadR := ⟨k, (k + 1)⟩
def marksLoad (k : Int) (n : Nat) : List LoadR := (List.range n).map fun i : Nat => mkLoad (k + 2 * (i : Int))
theorem marksLoad_length (k : Int) (n : Nat) : (marksLoad k n).length = n := by simp [marksLoad]
theorem marksLoad_get (k : Int) (n j : Nat) (h : j < n) : (marksLoad k n)[j]'(by rw [marksLoad_length]; exact h) = mkLoad (k + 2 * (j : Int)) := by simp [marksLoad]
theorem marksLoad_succ (k : Int) (n : Nat) : marksLoad k (n + 1) = marksLoad k n ++ [mkLoad (k + 2 * (n : Int))] := by simp [marksLoad, List.range_succ]
theorem set_markLoad {xs : List LoadR} {k : Int} {i : Nat} (h : i < xs.length) : ((((marksLoad k i ++ xs.drop i).flatMap encLoad).set (i * 2) (.int .i64 (k + 2 * (i : Int)))).set (i * 2 + 1) (.int .i64 (k + 2 * (i : Int) + 1))) = (marksLoad k (i + 1) ++ xs.drop (i + 1)).flatMap encLoad := by
  have hl := flat_length (enc := encLoad) (sz := 2) (fun _ => rfl) (marksLoad k i)
  rw [marksLoad_length] at hl
  rw [marksLoad_succ, List.drop_eq_getElem_cons h, List.flatMap_append, List.flatMap_append, List.flatMap_append, List.flatMap_cons, List.flatMap_cons, List.flatMap_nil, List.append_nil, List.append_assoc]
  generalize (marksLoad k i).flatMap encLoad = A at *
  rw [← hl]
  generalize (xs.drop (i + 1)).flatMap encLoad = C
  unfold mkLoad encLoad
  simp
theorem storesLoad {w0 w : World} {g B T m c i : Nat} {cs : List Value} (v0 v1 : Value) (h : w.ownsRow B T 2 (.slice (some ⟨g, 0, none⟩) m c) m cs) (hg : w0.grownBy w (some g)) :
    ((w.setCell ⟨g, i * 2, none⟩ (v0)).setCell ⟨g, i * 2 + 1, none⟩ (v1)).ownsRow B T 2 (.slice (some ⟨g, 0, none⟩) m c) m ((cs.set (i * 2) (v0)).set (i * 2 + 1) (v1)) ∧ w0.grownBy ((w.setCell ⟨g, i * 2, none⟩ (v0)).setCell ⟨g, i * 2 + 1, none⟩ (v1)) (some g) := by
  have s0 := World.ownsRow.stored h (i * 2) v0
  have t0 := grown_trans hg s0.2
  have s1 := World.ownsRow.stored s0.1 (i * 2 + 1) v1
  have t1 := grown_trans t0 s1.2
  exact ⟨s1.1, t1⟩
set_option maxRecDepth 100000 in
theorem lawsmarkLoadS (A : Option Addr) (c B : Nat) (xs : List LoadR) (k : Int) (w : World) (h : Own encLoad 2 68 w B (.slice A xs.length c) xs) (hn : xs.length ≤ 1048576) (k0 : 1 ≤ k) (k1 : k ≤ 100000000000) :
    Calls Tryd.prog 43 #[.slice A xs.length c, .int .i64 k] w fun e w' => e = .returned (.int .i64 (k + 2 * xs.length)) ∧ Own encLoad 2 68 w' B (.slice A xs.length c) (marksLoad k xs.length) ∧ w.grownBy w' (Value.slice A xs.length c).ownBlock := by
  have HX := hide h
  clear h
  go_enter Tryd.func43, Tryd.ntmps43
  go_wp2_with fail
  go_loopw [5, 1] (fun v q wr => ∃ i : Nat, v = .int .i64 i ∧ q = .int .i64 (k + 2 * i) ∧ i ≤ xs.length ∧ Hid (wr.ownsRow B 68 2 (.slice A xs.length c) xs.length ((marksLoad k i ++ xs.drop i).flatMap encLoad) ∧ w.grownBy wr (Value.slice A xs.length c).ownBlock)) (fun v _ _ => xs.length - (intOf v).toNat)
  case atStart => exact ⟨0, rfl, by simp, by omega, hide ⟨by have q : w.ownsRow B 68 2 (.slice A xs.length c) xs.length (xs.flatMap encLoad) := HX.out; simpa [marksLoad] using q, World.grownBy.refl _ _⟩⟩
  case round =>
    obtain ⟨i, rfl, rfl, hi, hR⟩ := hrel
    by_cases hlt : i < xs.length
    · obtain ⟨g, rfl, hg1, hg2⟩ := own_addr hR.out.1 (by omega)
      have hl := flat_length (enc := encLoad) (sz := 2) (fun _ => rfl) (marksLoad k i ++ xs.drop i)
      rw [List.length_append, marksLoad_length, List.length_drop, show i + (xs.length - i) = xs.length by omega] at hl
      obtain ⟨u0, hu0⟩ : ∃ u, wr.cell? ⟨g, i * 2, none⟩ = some u := ⟨_, (World.ownsRow.cellAt hR.out.1 (i * 2) (by omega)).trans (List.getElem?_eq_getElem (by omega))⟩
      have hf0 := World.ownsRow.frozenAt hR.out.1 (i * 2)
      obtain ⟨u1, hu1⟩ : ∃ u, wr.cell? ⟨g, i * 2 + 1, none⟩ = some u := ⟨_, (World.ownsRow.cellAt hR.out.1 (i * 2 + 1) (by omega)).trans (List.getElem?_eq_getElem (by omega))⟩
      have hf1 := World.ownsRow.frozenAt hR.out.1 (i * 2 + 1)
      clear hl
      have hr1 := hide hR.out.1
      have hgr := hide hR.out.2
      have q := storesLoad (i := i) (.int .i64 (k + 2 * (i : Int))) (.int .i64 (k + 2 * (i : Int) + 1)) hr1.out hgr.out
      rw [set_markLoad hlt] at q
      have Q := hide q
      clear q
      go_wp2_with fail
      go_roundw
      case rel => exact ⟨i + 1, by go_num, by go_num, by omega, Q⟩
      case measure => simp [intOf]; omega
    · obtain rfl : i = xs.length := by omega
      have hR' := hR.out
      rw [List.drop_length, List.append_nil] at hR'
      have HN := hide hR'
      clear hR hR'
      go_wp2_with fail
      go_ret
      exact ⟨rfl, by have := HN.out.1; unfold Own; rwa [marksLoad_length], HN.out.2⟩
set_option maxRecDepth 100000 in
theorem lawsheldLoadS (A : Option Addr) (c : Nat) (n : Nat) (k : Int) (w : World) (h : SlAt encLoad 2 w A (marksLoad k n)) (hn : n ≤ 1048576) (k0 : 1 ≤ k) (k1 : k ≤ 100000000000) :
    Calls Tryd.prog 44 #[.slice A n c, .int .i64 k] w fun e w' => e = .returned (.int .i64 (k + 2 * n)) ∧ Below w.heap.size w w' := by
  have HX := hide h
  clear h
  go_enter Tryd.func44, Tryd.ntmps44
  go_wp2_with fail
  go_loopw [5, 1] (fun v q wr => ∃ i : Nat, v = .int .i64 i ∧ q = .int .i64 (k + 2 * i) ∧ i ≤ n ∧ Below w.heap.size w wr) (fun v _ _ => n - (intOf v).toNat)
  case atStart => exact ⟨0, rfl, by simp, by omega, (by repeat (first | with_reducible exact Below.refl _ _ | with_reducible assumption | (with_reducible refine Below.drew ?_) | (with_reducible refine below_drewN ?_ _) | ((with_reducible refine Below.alloc ?_ ?_ _); rotate_left; (focus (first | omega | (simp; omega) | simp))) | ((with_reducible refine Below.setCell ?_ ?_ _); rotate_left; (focus (first | omega | (simp; omega) | simp))) | (refine Below.trans ?_ (Below.mono (by assumption) (by first | omega | (simp; omega) | simp)))))⟩
  case round =>
    obtain ⟨i, rfl, rfl, hi, hb⟩ := hrel
    by_cases hlt : i < n
    · obtain ⟨b, off, rfl, hbl, hc⟩ := HX.out.below hb i (by rw [marksLoad_length]; exact hlt)
      rw [marksLoad_get _ _ _ hlt] at hc
      have hc0 := hc 0 _ rfl
      have hc1 := hc 1 _ rfl
      simp only [mkLoad, Nat.add_zero] at hc0 hc1
      have HB := hide hb
      have hz := hb.size
      clear hc hb
      have HB2 := HB
      go_wp2_with fail
      go_roundw
      case rel => exact ⟨i + 1, by go_num, by go_num, by omega, by first | exact HB2.out | exact below_drewN HB2.out _⟩
      case measure => simp [intOf]; omega
    · obtain rfl : i = n := by omega
      go_wp2_with fail
      go_ret
      exact ⟨rfl, hb⟩
theorem held_own_Load {B c : Nat} {A : Option Addr} {n : Nat} {k : Int} {w : World} (h : Own encLoad 2 68 w B (.slice A n c) (marksLoad k n)) (hn : n ≤ 1048576) (k0 : 1 ≤ k) (k1 : k ≤ 100000000000) :
    Calls Tryd.prog 44 #[.slice A n c, .int .i64 k] w fun e w' => e = .returned (.int .i64 (k + 2 * n)) ∧ Below w.heap.size w w' :=
  lawsheldLoadS A c n k w (Own.at_ (B := B) (c := c) (T := 68) (enc := encLoad) (sz := 2) (fun _ => rfl) (by rw [marksLoad_length]; exact h)) hn k0 k1
end Go.Proofs.YtobcjhbfkanakaaDoor
