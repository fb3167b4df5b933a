/- Slices that a call makes itself, told as lists: the predicate; slices of numbers compared, marked, held. -/
import Derived.Test.YtnefgafmnpblpaaGreatSlice
namespace Go.Proofs.YtnefgafmnpblpaaGreat
open Go.RowKit

abbrev encI (n : Int) : List Value := [.int .i64 n]
theorem encI_map (xs : List Int) : xs.flatMap encI = xs.map (Value.int .i64) := by
  induction xs with
  | nil => rfl
  | cons x xs ih => simp [List.flatMap_cons, ih]
abbrev OwnI (w : World) (B : Nat) (v : Value) (xs : List Int) : Prop := Own encI 1 2 w B v xs
/-- k, k + 1, .. : n of them. -/
def marks (k : Int) (n : Nat) : List Int := (List.range n).map fun i : Nat => k + (i : Int)
theorem marks_length (k : Int) (n : Nat) : (marks k n).length = n := by simp [marks]
theorem marks_get (k : Int) (n j : Nat) (h : j < n) : (marks k n)[j]'(by rw [marks_length]; exact h) = k + j := by simp [marks]
theorem marks_succ (k : Int) (n : Nat) : marks k (n + 1) = marks k n ++ [k + n] := by simp [marks, List.range_succ]
theorem info_i64 : (Tryz.prog.info? 2).map (fun i => (i.zero, i.size, i.bytes)) = some (some (.int .i64 0), 1, 8) := by kernel_rfl

set_option maxRecDepth 100000 in
theorem wpList_appI {w : World} {ops : Array Oper} {rest : List Oper} {o : Oper} {a : Act} {Q : Exit → Act → World → Prop} (hgd : o.guard = none) (s x : Operand) (ho : o.op = .call { callee := .builtin .append, args := #[s, x], argTypes := #[24, 24] }) (B : Nat) {v : Value} {xs : List Int} (hs : a.eval s = v)
    (hown : OwnI w B v xs) {y : Int} (hx : a.eval x = .slice (some ⟨w.heap.size, 0, none⟩) 1 1) (hn : xs.length ≤ 1048576) (hB : B ≤ w.heap.size)
    (h : ∀ (A : Option Addr) (c : Nat) (w' : World), OwnI w' B (.slice A (xs.length + 1) c) (xs ++ [y]) → Below B w w' → w.grownBy w' v.ownBlock → wpList Tryz.prog ops Q rest (a.put o.dst (.slice A (xs.length + 1) c)) w') : wpList Tryz.prog ops Q (o :: rest) a (w.alloc (.cells #[.int .i64 y] 2)) := by
  obtain ⟨i0, hi, hz0, hz1, hz2⟩ := info_parts info_i64
  have hb0 : Below w.heap.size w (w.alloc (.cells #[.int .i64 y] 2)) := (Below.refl _ _).alloc (Nat.le_refl _) _
  refine wpList_app Tryz.underlying24 hi hz0 hz1 hz2 rfl (by omega) (by omega) (fun _ => rfl) hgd s x ho B hs (hown.below hb0) y (fun u hu => by simp at hu; subst hu; rfl) hx (fun j u hj => ?_) hn (by simp; omega) fun A c w' h1 h2 h3 => h A c w' h1 ((hb0.mono hB).trans h2) (grown_trans (grown_of_below hb0 _) h3)
  match j, hj with
  | 0, hj => injection hj with hj; subst hj; simp [Addr.add]
theorem lawstoInt64S (A : Option Addr) (c : Nat) (xs : List Int) (w : World) (h : SlAt encI 1 w A xs) (hn : xs.length ≤ 1048576) :
    Calls Tryz.prog 71 #[.slice A xs.length c] w fun e w' => ∃ b, e = .returned (.slice (some ⟨b, 0, none⟩) xs.length xs.length) ∧ OwnI w' w.heap.size (.slice (some ⟨b, 0, none⟩) xs.length xs.length) xs ∧ Below w.heap.size w w' := by
  obtain ⟨i0, hi, hz0, hz1, hz2⟩ := info_parts info_i64
  have hmk := fun W => run_make_rowN (P := Tryz.prog) 24 2 i0 _ Tryz.underlying24 hi hz0 .i64 .i64 xs.length xs.length (Nat.le_refl _) (by rw [hz2]; omega) (by omega) W
  rw [hz1] at hmk
  generalize hcs : madeCells (Value.int .i64 0).cells (xs.length * 1) = cs at hmk
  have hcs' : cs.size = xs.length * 1 := by rw [← hcs, size_madeCells]
  have hF := Fill.start w cs 2
  rw [hcs'] at hF
  have HF := hide hF
  have HX := hide h
  clear hi hz0 hz1 hz2 hcs hcs' hF h
  go_enter Tryz.func71, Tryz.ntmps71
  go_wp2_with fail
  clear hmk
  go_loopw [4] (fun v wr => ∃ k : Nat, v = .int .i64 k ∧ k ≤ xs.length ∧ Filling encI 1 2 w wr w.heap.size xs k) (fun v _ => xs.length - (intOf v).toNat)
  case atStart => exact ⟨0, rfl, by omega, by simpa using HF.out, (by repeat (first | with_reducible exact Below.refl _ _ | with_reducible assumption | (with_reducible refine Below.drew ?_) | (with_reducible refine below_drewN ?_ _) | ((with_reducible refine Below.alloc ?_ ?_ _); rotate_left; (focus (first | omega | (simp; omega) | simp))) | ((with_reducible refine Below.setCell ?_ ?_ _); rotate_left; (focus (first | omega | (simp; omega) | simp))) | (refine Below.trans ?_ (Below.mono (by assumption) (by first | omega | (simp; omega) | simp)))))⟩
  case round =>
    obtain ⟨k, rfl, hk, hR⟩ := hrel
    by_cases hlt : k < xs.length
    · obtain ⟨b, off, rfl, hbl, hc⟩ := HX.out k hlt
      have hb := hR.2
      have hc0 := (hb.cell (p := ⟨b, off + k * 1 + 0, none⟩) hbl).trans (hc 0 _ rfl)
      simp only [Nat.add_zero, Nat.mul_one] at hc0
      obtain ⟨u0, hu0⟩ := hR.1.cell (j := k) (by omega)
      have hf0 := hR.1.frozen k
      have hz := hR.1.lt
      have hlen := flat_length (enc := encI) (sz := 1) (fun _ => rfl) (xs.take k)
      rw [List.length_take, Nat.min_eq_left hk] at hlen
      have ht := take_flat encI xs k hlt
      have HR := hide hR
      have HT := hide (And.intro hlen ht)
      clear hR hb hlen ht hc
      generalize hx : xs[k] = x at *
      clear hx
      go_wp2_with fail
      go_roundw
      case rel => exact ⟨k + 1, by go_num, by omega, by
        refine ⟨?_, Below.setCell HR.out.2 (Nat.le_refl _) _⟩
        rw [HT.out.2]
        have hp := HR.out.1.push (m := k) (by simp [HT.out.1]) (by omega) (.int .i64 x)
        simpa [encI] using hp⟩
      case measure => simp [intOf]; omega
    · have hR' := hR.1
      rw [List.take_of_length_le (by omega)] at hR'
      have hfin := Fill.own (enc := encI) (sz := 1) rfl (Nat.le_trans hn (by decide)) (fun _ => rfl) hR'
      have HR := hide hR
      have HN := hide hfin
      clear hR hR' hfin
      go_wp2_with fail
      go_ret
      exact ⟨_, rfl, HN.out, HR.out.2⟩
theorem lawseqInt64S_same (A A' : Option Addr) (c c' : Nat) (xs : List Int) (w : World) (h : SlAt encI 1 w A xs) (h' : SlAt encI 1 w A' xs) (hn : xs.length ≤ 1048576) :
    Calls Tryz.prog 75 #[.slice A xs.length c, .slice A' xs.length c'] w fun e w' => e = .returned (.bool true) ∧ Below w.heap.size w w' := by
  have HX := hide h
  have HY := hide h'
  clear h h'
  go_enter Tryz.func75, Tryz.ntmps75
  go_wp2_with fail
  go_loopw [5] (fun v wr => ∃ k : Nat, v = .int .i64 k ∧ k ≤ xs.length ∧ Below w.heap.size w wr) (fun v _ => xs.length - (intOf v).toNat)
  case atStart => exact ⟨0, rfl, by omega, (by repeat (first | with_reducible exact Below.refl _ _ | with_reducible assumption | (with_reducible refine Below.drew ?_) | (with_reducible refine below_drewN ?_ _) | ((with_reducible refine Below.alloc ?_ ?_ _); rotate_left; (focus (first | omega | (simp; omega) | simp))) | ((with_reducible refine Below.setCell ?_ ?_ _); rotate_left; (focus (first | omega | (simp; omega) | simp))) | (refine Below.trans ?_ (Below.mono (by assumption) (by first | omega | (simp; omega) | simp)))))⟩
  case round =>
    obtain ⟨k, rfl, hk, hb⟩ := hrel
    by_cases hlt : k < xs.length
    · obtain ⟨b, off, rfl, hbl, hc⟩ := HX.out.below hb k hlt
      obtain ⟨b2, off2, rfl, hbl2, hd⟩ := HY.out.below hb k hlt
      have hc0 := hc 0 _ rfl
      have hd0 := hd 0 _ rfl
      simp only [Nat.add_zero, Nat.mul_one] at hc0 hd0
      have hz := hb.size
      have HB := hide hb
      clear hc hd hb
      generalize hx : xs[k] = x at *
      clear hx
      go_wp2_with fail
      go_quiet (fail)
      go_wp2_with fail
      go_roundw
      case rel => exact ⟨k + 1, by go_num, by omega, by first | exact below_drewN HB.out _ | exact HB.out⟩
      case measure => simp [intOf]; omega
    · go_wp2_with fail
      go_ret
      exact ⟨rfl, hb⟩
theorem set_mark {xs : List Int} {k : Int} {i : Nat} (h : i < xs.length) : ((marks k i ++ xs.drop i).flatMap encI).set i (.int .i64 (k + i)) = (marks k (i + 1) ++ xs.drop (i + 1)).flatMap encI := by
  rw [marks_succ, List.drop_eq_getElem_cons h, encI_map, encI_map]
  simp only [List.map_append, List.map_cons, List.append_assoc, List.cons_append, List.nil_append]
  rw [List.set_append_right _ _ (by simp [marks_length])]
  simp [marks_length]
theorem lawsmarkInt64S (A : Option Addr) (c B : Nat) (xs : List Int) (k : Int) (w : World) (h : OwnI w B (.slice A xs.length c) xs) (hn : xs.length ≤ 1048576) (k0 : 0 ≤ k) (k1 : k ≤ 1000000000000) :
    Calls Tryz.prog 80 #[.slice A xs.length c, .int .i64 k] w fun e w' => e = .returned (.int .i64 (k + xs.length)) ∧ OwnI w' B (.slice A xs.length c) (marks k xs.length) ∧ w.grownBy w' (Value.slice A xs.length c).ownBlock := by
  have HX := hide h
  clear h
  go_enter Tryz.func80, Tryz.ntmps80
  go_wp2_with fail
  go_loopw [5, 1] (fun v q wr => ∃ i : Nat, v = .int .i64 i ∧ q = .int .i64 (k + i) ∧ i ≤ xs.length ∧ Hid (wr.ownsRow B 2 1 (.slice A xs.length c) xs.length ((marks k i ++ xs.drop i).flatMap encI) ∧ w.grownBy wr (Value.slice A xs.length c).ownBlock)) (fun v _ _ => xs.length - (intOf v).toNat)
  case atStart => exact ⟨0, rfl, by simp, by omega, hide ⟨by have q : w.ownsRow B 2 1 (.slice A xs.length c) xs.length (xs.flatMap encI) := HX.out; simpa [marks] using q, World.grownBy.refl _ _⟩⟩
  case round =>
    obtain ⟨i, rfl, rfl, hi, hR⟩ := hrel
    by_cases hlt : i < xs.length
    · obtain ⟨g, rfl, hg1, hg2⟩ := own_addr hR.out.1 (by omega)
      have hc := World.ownsRow.cellAt hR.out.1 i (by omega)
      have hl : i < ((marks k i ++ xs.drop i).flatMap encI).length := by rw [encI_map]; simp [marks_length]; omega
      rw [List.getElem?_eq_getElem hl] at hc
      generalize ((marks k i ++ xs.drop i).flatMap encI)[i] = u at hc
      have hf := World.ownsRow.frozenAt hR.out.1 i
      go_wp2_with fail
      go_roundw
      case rel => exact ⟨i + 1, by go_num, by go_num, by omega, by
        have q := World.ownsRow.stored hR.out.1 i (.int .i64 (k + i))
        rw [set_mark hlt] at q
        exact hide ⟨q.1, grown_trans hR.out.2 q.2⟩⟩
      case measure => simp [intOf]; omega
    · obtain rfl : i = xs.length := by omega
      have hR' := hR.out
      rw [List.drop_length, List.append_nil] at hR'
      have HN := hide hR'
      clear hR hR'
      go_wp2_with fail
      go_ret
      exact ⟨rfl, by have := HN.out.1; unfold OwnI Own; rwa [marks_length], HN.out.2⟩
end Go.Proofs.YtnefgafmnpblpaaGreat
