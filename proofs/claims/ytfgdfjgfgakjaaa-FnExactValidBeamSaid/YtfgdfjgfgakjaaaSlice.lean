/- Slices of structs that read as lists: the predicate, and the contracts of the laws' copies, counts and comparisons. -/
import Derived.Test.YtfgdfjgfgakjaaaValid
import Derived.Deep.RegionHeld3
import Derived.Laws.MakeOwn
import Derived.Outline
namespace Go.Proofs.Ytfgdfjgfgakjaaa
open Go.RowKit

/-- A slice whose elements (of sz cells each) read as the list xs. -/
def SlAt {α : Type} (enc : α → List Value) (sz : Nat) (w : World) (A : Option Addr) (xs : List α) : Prop :=
  ∀ (k : Nat) (h : k < xs.length), ∃ b off, A = some ⟨b, off, none⟩ ∧ b < w.heap.size ∧ ∀ (j : Nat) (v : Value), (enc xs[k])[j]? = some v → w.cell? ⟨b, off + k * sz + j, none⟩ = some v
theorem SlAt.below {α : Type} {enc : α → List Value} {sz : Nat} {w w' : World} {A : Option Addr} {xs : List α} (h : SlAt enc sz w A xs) (hb : Below w.heap.size w w') : SlAt enc sz w' A xs := by
  intro k hk
  obtain ⟨b, off, e, hlt, hc⟩ := h k hk
  exact ⟨b, off, e, Nat.lt_of_lt_of_le hlt hb.size, fun j v hv => (hb.cell (p := ⟨b, off + k * sz + j, none⟩) hlt).trans (hc j v hv)⟩
theorem SlAt.far {α : Type} {enc : α → List Value} {sz : Nat} {w : World} {b o : Nat} {xs : List α} (h : SlAt enc sz w (some ⟨b, o, none⟩) xs) {p : Addr} (hp : p.block ≠ b) (v : Value) : SlAt enc sz (w.setCell p v) (some ⟨b, o, none⟩) xs := by
  intro k hk
  obtain ⟨b', off, e, hl, hc⟩ := h k hk
  injection e with e
  injection e with e1 e2
  subst e1; subst e2
  exact ⟨b, o, rfl, by simpa [World.setCell] using hl, fun j u hu => (World.cell?_setCell_other w p _ v (fun e => hp (by rw [e]))).trans (hc j u hu)⟩
theorem run_make_rowN {P : Program} (t e : TypeId) (i : TypeInfo) (z : Value) (ht : P.underlying t = some (.slice e)) (hi : P.info? e = some i) (hz : i.zero = some z)
    (kl kc : IntKind) (n c : Nat) (hnc : n ≤ c) (hbytes : i.bytes * c ≤ 281474976710656) (h63 : c ≤ 9223372036854775807) (w : World) :
    (Instr.makeSlice t (.int kl (n : Int)) (.int kc (c : Int))).run P w = .ok (.slice (some ⟨w.heap.size, 0, none⟩) n c) (w.alloc (.cells (madeCells z.cells (c * i.size)) e)) := by
  have hb : (i.bytes : Int) * (c : Int) ≤ 281474976710656 := by
    have h : ((i.bytes * c : Nat) : Int) ≤ 281474976710656 := by omega
    rwa [Int.natCast_mul] at h
  have hr := run_make (P := P) w t e i z ht hi hz kl kc n c (by omega) (by omega) hb (by omega)
  simp only [Int.toNat_natCast] at hr
  exact hr

/-- A block of the call's own that is filled from its head: N cells, none frozen, the first of them vs. -/
def Fill (w : World) (B N : Nat) (vs : List Value) : Prop := ∃ (cs : Array Value) (t : TypeId), w.heap[B]? = some (.cells cs t (0, 0)) ∧ cs.size = N ∧ ∀ (j : Nat) (v : Value), vs[j]? = some v → cs[j]? = some v
theorem Fill.start (w : World) (cs : Array Value) (t : TypeId) : Fill (w.alloc (.cells cs t)) w.heap.size cs.size [] :=
  ⟨cs, t, heap_alloc_new w _, rfl, fun j v h => by simp at h⟩
theorem Fill.below {w w' : World} {B B' N : Nat} {vs : List Value} (h : Fill w B N vs) (hb : Below B' w w') (hB : B < B') : Fill w' B N vs := by
  obtain ⟨cs, t, e, hs, hv⟩ := h
  exact ⟨cs, t, (hb.block B hB).trans e, hs, hv⟩
theorem Fill.drewN {w : World} {B N : Nat} {vs : List Value} (h : Fill w B N vs) (n : Nat) : Fill (w.drewN n) B N vs := h
theorem Fill.cell {w : World} {B N : Nat} {vs : List Value} (h : Fill w B N vs) {j : Nat} (hj : j < N) : ∃ u, w.cell? ⟨B, j, none⟩ = some u := by
  obtain ⟨cs, t, e, hs, hv⟩ := h
  refine ⟨cs[j], ?_⟩
  simp [World.cell?, e]
theorem Fill.frozen {w : World} {B N : Nat} {vs : List Value} (h : Fill w B N vs) (j : Nat) : w.frozen? ⟨B, j, none⟩ = false := by
  obtain ⟨cs, t, e, hs, hv⟩ := h
  simp [World.frozen?, e]
theorem Fill.lt {w : World} {B N : Nat} {vs : List Value} (h : Fill w B N vs) : B < w.heap.size := by
  obtain ⟨cs, t, e, hs, hv⟩ := h
  rcases Nat.lt_or_ge B w.heap.size with hlt | hge
  · exact hlt
  · rw [Array.getElem?_eq_none hge] at e; cases e
theorem Fill.push {w : World} {B N m : Nat} {vs : List Value} (h : Fill w B N vs) (hm : vs.length = m) (hN : m < N) (v : Value) : Fill (w.setCell ⟨B, m, none⟩ v) B N (vs ++ [v]) := by
  obtain ⟨cs, t, e, hs, hv⟩ := h
  refine ⟨cs.setIfInBounds m v, t, ?_, by simpa using hs, fun j u hu => ?_⟩
  · simp [World.setCell, Array.getElem?_modify, e]
  · by_cases hj : j = m
    · subst hj
      rw [List.getElem?_append_right (by omega)] at hu
      simp only [hm, Nat.sub_self, List.getElem?_cons_zero, Option.some.injEq] at hu
      subst hu
      rw [Array.getElem?_setIfInBounds_self_of_lt (by omega)]
    · by_cases hlt : j < vs.length
      · rw [List.getElem?_append_left hlt] at hu
        rw [Array.getElem?_setIfInBounds_ne (by omega)]
        exact hv j u hu
      · rw [List.getElem?_eq_none (by simp; omega)] at hu
        cases hu
theorem flat_length {α : Type} {enc : α → List Value} {sz : Nat} (he : ∀ x, (enc x).length = sz) (xs : List α) : (xs.flatMap enc).length = xs.length * sz := by
  induction xs with
  | nil => simp
  | cons x xs ih => simp [ih, he, Nat.add_mul, Nat.add_comm]
theorem flat_get {α : Type} {enc : α → List Value} {sz : Nat} (he : ∀ x, (enc x).length = sz) : ∀ (xs : List α) (k : Nat) (h : k < xs.length) (j : Nat), j < sz → (xs.flatMap enc)[k * sz + j]? = (enc xs[k])[j]? := by
  intro xs
  induction xs with
  | nil => intro k h; simp at h
  | cons x xs ih =>
    intro k h j hj
    cases k with
    | zero => simp only [List.flatMap_cons, Nat.zero_mul, Nat.zero_add, List.getElem_cons_zero]; rw [List.getElem?_append_left (by rw [he]; exact hj)]
    | succ k =>
      simp only [List.flatMap_cons, List.getElem_cons_succ]
      rw [List.getElem?_append_right (by rw [he, Nat.add_mul]; omega), he, show (k + 1) * sz + j - sz = k * sz + j by rw [Nat.add_mul]; omega]
      exact ih k (by simpa using h) j hj
theorem take_flat {α : Type} (enc : α → List Value) (xs : List α) (k : Nat) (h : k < xs.length) : (xs.take (k + 1)).flatMap enc = (xs.take k).flatMap enc ++ enc xs[k] := by
  rw [List.take_succ_eq_append_getElem h, List.flatMap_append]; simp
theorem Fill.fin {α : Type} {enc : α → List Value} {sz : Nat} (he : ∀ x, (enc x).length = sz) {w : World} {B N : Nat} {xs : List α} (h : Fill w B N (xs.flatMap enc)) : SlAt enc sz w (some ⟨B, 0, none⟩) xs := by
  intro k hk
  refine ⟨B, 0, rfl, h.lt, fun j v hv => ?_⟩
  obtain ⟨cs, t, e, hs, hvs⟩ := h
  have hj : j < sz := by
    have := (List.getElem?_eq_some_iff.1 hv).1
    rwa [he] at this
  have := hvs (k * sz + j) v ((flat_get he xs k hk j hj).trans hv)
  simpa [World.cell?, e] using this
/-- What a loop that fills a block of its own knows at a round's head. -/
def Filling {α : Type} (enc : α → List Value) (sz : Nat) (w0 w : World) (B : Nat) (xs : List α) (k : Nat) : Prop := Fill w B (xs.length * sz) ((xs.take k).flatMap enc) ∧ Below B w0 w

structure LoadR where
  at_ : Int
  wt : Int
def encLoad (x : LoadR) : List Value := [.int .i64 x.at_, .int .i64 x.wt]
theorem info_Load : (Try.prog.info? 107).map (fun i => (i.zero, i.size, i.bytes)) = some (some (.agg #[.int .i64 0, .int .i64 0]), 2, 16) := by kernel_rfl
theorem lawstoLoadS (A : Option Addr) (c : Nat) (xs : List LoadR) (w : World) (h : SlAt encLoad 2 w A xs) (hn : xs.length ≤ 1048576) :
    Calls Try.prog 82 #[.slice A xs.length c] w fun e w' => ∃ b, e = .returned (.slice (some ⟨b, 0, none⟩) xs.length xs.length) ∧ SlAt encLoad 2 w' (some ⟨b, 0, none⟩) xs ∧ w.heap.size ≤ b ∧ b < w'.heap.size ∧ Below w.heap.size w w' := by
  obtain ⟨i0, hi, hz0, hz1, hz2⟩ := info_parts info_Load
  have hmk := fun W => run_make_rowN (P := Try.prog) 62 107 i0 _ Try.underlying62 hi hz0 .i64 .i64 xs.length xs.length (Nat.le_refl _) (by rw [hz2]; omega) (by omega) W
  rw [hz1] at hmk
  generalize hcs : madeCells (Value.agg #[.int .i64 0, .int .i64 0]).cells (xs.length * 2) = cs at hmk
  have hcs' : cs.size = xs.length * 2 := by rw [← hcs, size_madeCells]
  have hF := Fill.start w cs 107
  rw [hcs'] at hF
  have HF := hide hF
  have HX := hide h
  clear hi hz0 hz1 hz2 hcs hcs' hF h
  go_enter Try.func82, Try.ntmps82
  go_wp2_with fail
  clear hmk
  go_loopw [4] (fun v wr => ∃ k : Nat, v = .int .i64 k ∧ k ≤ xs.length ∧ Filling encLoad 2 w wr w.heap.size xs k) (fun v _ => xs.length - (intOf v).toNat)
  case atStart => exact ⟨0, rfl, by omega, by simpa using HF.out, (by repeat (first | with_reducible exact Below.refl _ _ | with_reducible assumption | (with_reducible refine Below.drew ?_) | (with_reducible refine below_drewN ?_ _) | ((with_reducible refine Below.alloc ?_ ?_ _); rotate_left; (focus (first | omega | (simp; omega) | simp))) | ((with_reducible refine Below.setCell ?_ ?_ _); rotate_left; (focus (first | omega | (simp; omega) | simp))) | (refine Below.trans ?_ (Below.mono (by assumption) (by first | omega | (simp; omega) | simp)))))⟩
  case round =>
    obtain ⟨k, rfl, hk, hR⟩ := hrel
    by_cases hlt : k < xs.length
    · obtain ⟨b, off, rfl, hbl, hc⟩ := HX.out k hlt
      have hb := hR.2

      have hc0 := (hb.cell (p := ⟨b, off + k * 2 + 0, none⟩) hbl).trans (hc 0 _ rfl)
      have hc1 := (hb.cell (p := ⟨b, off + k * 2 + 1, none⟩) hbl).trans (hc 1 _ rfl)
      simp only [Nat.add_zero] at hc0
      obtain ⟨u0, hu0⟩ := hR.1.cell (j := k * 2) (by omega)
      have hf0 := hR.1.frozen (k * 2)
      obtain ⟨u1, hu1⟩ := hR.1.cell (j := k * 2 + 1) (by omega)
      have hf1 := hR.1.frozen (k * 2 + 1)
      have hz := hR.1.lt
      have hlen := flat_length (enc := encLoad) (sz := 2) (fun _ => rfl) (xs.take k)
      rw [List.length_take, Nat.min_eq_left hk] at hlen
      have ht := take_flat encLoad xs k hlt
      have HR := hide hR
      have HT := hide (And.intro hlen ht)
      clear hR hb hlen ht hc
      generalize hx : xs[k] = x at *
      obtain ⟨x0, x1⟩ := x
      clear hx
      simp only at hc0 hc1
      go_wp2_with fail
      refine (lawstoLoad _ _ _).mono ?_
      rintro e w1 ⟨rfl, hb1⟩
      obtain ⟨fcb1, ffb1, fzb1⟩ := bfacts hb1 (by first | exact Nat.le_refl _ | omega | (simp; omega) | simp); have fsb1 := hb1.size; try simp at fcb1 ffb1 fzb1 fsb1 hb1
      go_wp2_with fail
      go_roundw
      case rel => exact ⟨k + 1, by go_num, by omega, by
        refine ⟨?_, Below.setCell (Below.setCell (HR.out.2.trans (hb1.mono (by omega))) (Nat.le_refl _) _) (Nat.le_refl _) _⟩
        rw [HT.out.2]
        have hp := ((HR.out.1.below hb1 hz).push (m := k * 2) (by simp [HT.out.1]) (by omega) (.int .i64 x0)).push (m := k * 2 + 1) (by simp [HT.out.1]) (by omega) (.int .i64 x1)
        simpa [encLoad] using hp⟩
      case measure => simp [intOf]; omega
    · have hR' := hR.1
      rw [List.take_of_length_le (by omega)] at hR'
      have hfin := Fill.fin (enc := encLoad) (sz := 2) (fun _ => rfl) hR'
      have hz := hR.1.lt
      have HR := hide hR
      have HN := hide hfin
      clear hR hR' hfin
      go_wp2_with fail
      go_ret
      exact ⟨_, rfl, HN.out, Nat.le_refl _, hz, HR.out.2⟩
structure SwingR where
  nm : ByteArray
  rate : Int
  force : Int
def encSwing (x : SwingR) : List Value := [.string x.nm, .int .i64 x.rate, .int .i64 x.force]
theorem info_Swing : (Try.prog.info? 111).map (fun i => (i.zero, i.size, i.bytes)) = some (some (.agg #[.string ByteArray.empty, .int .i64 0, .int .i64 0]), 3, 32) := by kernel_rfl
theorem lawstoSwingS (A : Option Addr) (c : Nat) (xs : List SwingR) (w : World) (h : SlAt encSwing 3 w A xs) (hn : xs.length ≤ 1048576) :
    Calls Try.prog 45 #[.slice A xs.length c] w fun e w' => ∃ b, e = .returned (.slice (some ⟨b, 0, none⟩) xs.length xs.length) ∧ SlAt encSwing 3 w' (some ⟨b, 0, none⟩) xs ∧ w.heap.size ≤ b ∧ b < w'.heap.size ∧ Below w.heap.size w w' := by
  obtain ⟨i0, hi, hz0, hz1, hz2⟩ := info_parts info_Swing
  have hmk := fun W => run_make_rowN (P := Try.prog) 70 111 i0 _ Try.underlying70 hi hz0 .i64 .i64 xs.length xs.length (Nat.le_refl _) (by rw [hz2]; omega) (by omega) W
  rw [hz1] at hmk
  generalize hcs : madeCells (Value.agg #[.string ByteArray.empty, .int .i64 0, .int .i64 0]).cells (xs.length * 3) = cs at hmk
  have hcs' : cs.size = xs.length * 3 := by rw [← hcs, size_madeCells]
  have hF := Fill.start w cs 111
  rw [hcs'] at hF
  have HF := hide hF
  have HX := hide h
  clear hi hz0 hz1 hz2 hcs hcs' hF h
  go_enter Try.func45, Try.ntmps45
  go_wp2_with fail
  clear hmk
  go_loopw [4] (fun v wr => ∃ k : Nat, v = .int .i64 k ∧ k ≤ xs.length ∧ Filling encSwing 3 w wr w.heap.size xs k) (fun v _ => xs.length - (intOf v).toNat)
  case atStart => exact ⟨0, rfl, by omega, by simpa using HF.out, (by repeat (first | with_reducible exact Below.refl _ _ | with_reducible assumption | (with_reducible refine Below.drew ?_) | (with_reducible refine below_drewN ?_ _) | ((with_reducible refine Below.alloc ?_ ?_ _); rotate_left; (focus (first | omega | (simp; omega) | simp))) | ((with_reducible refine Below.setCell ?_ ?_ _); rotate_left; (focus (first | omega | (simp; omega) | simp))) | (refine Below.trans ?_ (Below.mono (by assumption) (by first | omega | (simp; omega) | simp)))))⟩
  case round =>
    obtain ⟨k, rfl, hk, hR⟩ := hrel
    by_cases hlt : k < xs.length
    · obtain ⟨b, off, rfl, hbl, hc⟩ := HX.out k hlt
      have hb := hR.2

      have hc0 := (hb.cell (p := ⟨b, off + k * 3 + 0, none⟩) hbl).trans (hc 0 _ rfl)
      have hc1 := (hb.cell (p := ⟨b, off + k * 3 + 1, none⟩) hbl).trans (hc 1 _ rfl)
      have hc2 := (hb.cell (p := ⟨b, off + k * 3 + 2, none⟩) hbl).trans (hc 2 _ rfl)
      simp only [Nat.add_zero] at hc0
      obtain ⟨u0, hu0⟩ := hR.1.cell (j := k * 3) (by omega)
      have hf0 := hR.1.frozen (k * 3)
      obtain ⟨u1, hu1⟩ := hR.1.cell (j := k * 3 + 1) (by omega)
      have hf1 := hR.1.frozen (k * 3 + 1)
      obtain ⟨u2, hu2⟩ := hR.1.cell (j := k * 3 + 2) (by omega)
      have hf2 := hR.1.frozen (k * 3 + 2)
      have hz := hR.1.lt
      have hlen := flat_length (enc := encSwing) (sz := 3) (fun _ => rfl) (xs.take k)
      rw [List.length_take, Nat.min_eq_left hk] at hlen
      have ht := take_flat encSwing xs k hlt
      have HR := hide hR
      have HT := hide (And.intro hlen ht)
      clear hR hb hlen ht hc
      generalize hx : xs[k] = x at *
      obtain ⟨x0, x1, x2⟩ := x
      clear hx
      simp only at hc0 hc1 hc2
      go_wp2_with fail
      refine (lawstoSwing _ _ _ _).mono ?_
      rintro e w1 ⟨rfl, hb1⟩
      obtain ⟨fcb1, ffb1, fzb1⟩ := bfacts hb1 (by first | exact Nat.le_refl _ | omega | (simp; omega) | simp); have fsb1 := hb1.size; try simp at fcb1 ffb1 fzb1 fsb1 hb1
      go_wp2_with fail
      go_roundw
      case rel => exact ⟨k + 1, by go_num, by omega, by
        refine ⟨?_, Below.setCell (Below.setCell (Below.setCell (HR.out.2.trans (hb1.mono (by omega))) (Nat.le_refl _) _) (Nat.le_refl _) _) (Nat.le_refl _) _⟩
        rw [HT.out.2]
        have hp := (((HR.out.1.below hb1 hz).push (m := k * 3) (by simp [HT.out.1]) (by omega) (.string x0)).push (m := k * 3 + 1) (by simp [HT.out.1]) (by omega) (.int .i64 x1)).push (m := k * 3 + 2) (by simp [HT.out.1]) (by omega) (.int .i64 x2)
        simpa [encSwing] using hp⟩
      case measure => simp [intOf]; omega
    · have hR' := hR.1
      rw [List.take_of_length_le (by omega)] at hR'
      have hfin := Fill.fin (enc := encSwing) (sz := 3) (fun _ => rfl) hR'
      have hz := hR.1.lt
      have HR := hide hR
      have HN := hide hfin
      clear hR hR' hfin
      go_wp2_with fail
      go_ret
      exact ⟨_, rfl, HN.out, Nat.le_refl _, hz, HR.out.2⟩
structure PlaceR where
  nm : ByteArray
  x : Int
  y : Int
  z : Int
  r : Int
def encPlace (x : PlaceR) : List Value := [.string x.nm, .int .i64 x.x, .int .i64 x.y, .int .i64 x.z, .int .i64 x.r]
theorem info_Place : (Try.prog.info? 48).map (fun i => (i.zero, i.size, i.bytes)) = some (some (.agg #[.string ByteArray.empty, .int .i64 0, .int .i64 0, .int .i64 0, .int .i64 0]), 5, 48) := by kernel_rfl
theorem lawstoPlaceS (A : Option Addr) (c : Nat) (xs : List PlaceR) (w : World) (h : SlAt encPlace 5 w A xs) (hn : xs.length ≤ 1048576) :
    Calls Try.prog 50 #[.slice A xs.length c] w fun e w' => ∃ b, e = .returned (.slice (some ⟨b, 0, none⟩) xs.length xs.length) ∧ SlAt encPlace 5 w' (some ⟨b, 0, none⟩) xs ∧ w.heap.size ≤ b ∧ b < w'.heap.size ∧ Below w.heap.size w w' := by
  obtain ⟨i0, hi, hz0, hz1, hz2⟩ := info_parts info_Place
  have hmk := fun W => run_make_rowN (P := Try.prog) 77 48 i0 _ Try.underlying77 hi hz0 .i64 .i64 xs.length xs.length (Nat.le_refl _) (by rw [hz2]; omega) (by omega) W
  rw [hz1] at hmk
  generalize hcs : madeCells (Value.agg #[.string ByteArray.empty, .int .i64 0, .int .i64 0, .int .i64 0, .int .i64 0]).cells (xs.length * 5) = cs at hmk
  have hcs' : cs.size = xs.length * 5 := by rw [← hcs, size_madeCells]
  have hF := Fill.start w cs 48
  rw [hcs'] at hF
  have HF := hide hF
  have HX := hide h
  clear hi hz0 hz1 hz2 hcs hcs' hF h
  go_enter Try.func50, Try.ntmps50
  go_wp2_with fail
  clear hmk
  go_loopw [4] (fun v wr => ∃ k : Nat, v = .int .i64 k ∧ k ≤ xs.length ∧ Filling encPlace 5 w wr w.heap.size xs k) (fun v _ => xs.length - (intOf v).toNat)
  case atStart => exact ⟨0, rfl, by omega, by simpa using HF.out, (by repeat (first | with_reducible exact Below.refl _ _ | with_reducible assumption | (with_reducible refine Below.drew ?_) | (with_reducible refine below_drewN ?_ _) | ((with_reducible refine Below.alloc ?_ ?_ _); rotate_left; (focus (first | omega | (simp; omega) | simp))) | ((with_reducible refine Below.setCell ?_ ?_ _); rotate_left; (focus (first | omega | (simp; omega) | simp))) | (refine Below.trans ?_ (Below.mono (by assumption) (by first | omega | (simp; omega) | simp)))))⟩
  case round =>
    obtain ⟨k, rfl, hk, hR⟩ := hrel
    by_cases hlt : k < xs.length
    · obtain ⟨b, off, rfl, hbl, hc⟩ := HX.out k hlt
      have hb := hR.2

      have hc0 := (hb.cell (p := ⟨b, off + k * 5 + 0, none⟩) hbl).trans (hc 0 _ rfl)
      have hc1 := (hb.cell (p := ⟨b, off + k * 5 + 1, none⟩) hbl).trans (hc 1 _ rfl)
      have hc2 := (hb.cell (p := ⟨b, off + k * 5 + 2, none⟩) hbl).trans (hc 2 _ rfl)
      have hc3 := (hb.cell (p := ⟨b, off + k * 5 + 3, none⟩) hbl).trans (hc 3 _ rfl)
      have hc4 := (hb.cell (p := ⟨b, off + k * 5 + 4, none⟩) hbl).trans (hc 4 _ rfl)
      simp only [Nat.add_zero] at hc0
      obtain ⟨u0, hu0⟩ := hR.1.cell (j := k * 5) (by omega)
      have hf0 := hR.1.frozen (k * 5)
      obtain ⟨u1, hu1⟩ := hR.1.cell (j := k * 5 + 1) (by omega)
      have hf1 := hR.1.frozen (k * 5 + 1)
      obtain ⟨u2, hu2⟩ := hR.1.cell (j := k * 5 + 2) (by omega)
      have hf2 := hR.1.frozen (k * 5 + 2)
      obtain ⟨u3, hu3⟩ := hR.1.cell (j := k * 5 + 3) (by omega)
      have hf3 := hR.1.frozen (k * 5 + 3)
      obtain ⟨u4, hu4⟩ := hR.1.cell (j := k * 5 + 4) (by omega)
      have hf4 := hR.1.frozen (k * 5 + 4)
      have hz := hR.1.lt
      have hlen := flat_length (enc := encPlace) (sz := 5) (fun _ => rfl) (xs.take k)
      rw [List.length_take, Nat.min_eq_left hk] at hlen
      have ht := take_flat encPlace xs k hlt
      have HR := hide hR
      have HT := hide (And.intro hlen ht)
      clear hR hb hlen ht hc
      generalize hx : xs[k] = x at *
      obtain ⟨x0, x1, x2, x3, x4⟩ := x
      clear hx
      simp only at hc0 hc1 hc2 hc3 hc4
      go_wp2_with fail
      refine (lawstoPlace _ _ _ _ _ _).mono ?_
      rintro e w1 ⟨rfl, hb1⟩
      obtain ⟨fcb1, ffb1, fzb1⟩ := bfacts hb1 (by first | exact Nat.le_refl _ | omega | (simp; omega) | simp); have fsb1 := hb1.size; try simp at fcb1 ffb1 fzb1 fsb1 hb1
      go_wp2_with fail
      go_roundw
      case rel => exact ⟨k + 1, by go_num, by omega, by
        refine ⟨?_, Below.setCell (Below.setCell (Below.setCell (Below.setCell (Below.setCell (HR.out.2.trans (hb1.mono (by omega))) (Nat.le_refl _) _) (Nat.le_refl _) _) (Nat.le_refl _) _) (Nat.le_refl _) _) (Nat.le_refl _) _⟩
        rw [HT.out.2]
        have hp := (((((HR.out.1.below hb1 hz).push (m := k * 5) (by simp [HT.out.1]) (by omega) (.string x0)).push (m := k * 5 + 1) (by simp [HT.out.1]) (by omega) (.int .i64 x1)).push (m := k * 5 + 2) (by simp [HT.out.1]) (by omega) (.int .i64 x2)).push (m := k * 5 + 3) (by simp [HT.out.1]) (by omega) (.int .i64 x3)).push (m := k * 5 + 4) (by simp [HT.out.1]) (by omega) (.int .i64 x4)
        simpa [encPlace] using hp⟩
      case measure => simp [intOf]; omega
    · have hR' := hR.1
      rw [List.take_of_length_le (by omega)] at hR'
      have hfin := Fill.fin (enc := encPlace) (sz := 5) (fun _ => rfl) hR'
      have hz := hR.1.lt
      have HR := hide hR
      have HN := hide hfin
      clear hR hR' hfin
      go_wp2_with fail
      go_ret
      exact ⟨_, rfl, HN.out, Nat.le_refl _, hz, HR.out.2⟩
end Go.Proofs.Ytfgdfjgfgakjaaa
