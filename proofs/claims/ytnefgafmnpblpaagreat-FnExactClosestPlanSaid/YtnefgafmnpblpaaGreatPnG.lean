/- Rows of rings and of cuts as lists. -/
import Derived.Test.YtnefgafmnpblpaaGreatInts
import Derived.Test.YtnefgafmnpblpaaGreatName
namespace Go.Proofs.YtnefgafmnpblpaaGreat
open Go.RowKit

theorem lawstoRing (x0 : Int) (x1 : Int) (x2 : Int) (w : World) : Calls Tryz.prog 134 #[.agg #[.int .i64 x0, .int .i64 x1, .int .i64 x2]] w fun e w' => e = .returned (.agg #[.int .i64 x0, .int .i64 x1, .int .i64 x2]) ∧ Below w.heap.size w w' := by
  go_enter Tryz.func134, Tryz.ntmps134
  go_wp2
  refine bodyPost_ret (v := .agg #[.int .i64 x0, .int .i64 x1, .int .i64 x2]) (by simp [results, Tryz.results134, go_sem]) rfl ⟨rfl, (by repeat (first | with_reducible exact Below.refl _ _ | with_reducible assumption | (with_reducible refine Below.drew ?_) | (with_reducible refine below_drewN ?_ _) | ((with_reducible refine Below.alloc ?_ ?_ _); rotate_left; (focus (first | omega | (simp; omega) | simp))) | ((with_reducible refine Below.setCell ?_ ?_ _); rotate_left; (focus (first | omega | (simp; omega) | simp))) | (refine Below.trans ?_ (Below.mono (by assumption) (by first | omega | (simp; omega) | simp)))))⟩
structure RingR where
  outer : Int
  inner : Int
  hgt : Int
def encRing (x : RingR) : List Value := [.int .i64 x.outer, .int .i64 x.inner, .int .i64 x.hgt]
theorem info_Ring : (Tryz.prog.info? 156).map (fun i => (i.zero, i.size, i.bytes)) = some (some (.agg #[.int .i64 0, .int .i64 0, .int .i64 0]), 3, 24) := by kernel_rfl
theorem lawstoRingS_own (A : Option Addr) (c : Nat) (xs : List RingR) (w : World) (h : SlAt encRing 3 w A xs) (hn : xs.length ≤ 1048576) :
    Calls Tryz.prog 73 #[.slice A xs.length c] w fun e w' => ∃ b, e = .returned (.slice (some ⟨b, 0, none⟩) xs.length xs.length) ∧ SlAt encRing 3 w' (some ⟨b, 0, none⟩) xs ∧ w.heap.size ≤ b ∧ b < w'.heap.size ∧ Below w.heap.size w w' ∧ Own encRing 3 156 w' w.heap.size (.slice (some ⟨b, 0, none⟩) xs.length xs.length) xs := by
  obtain ⟨i0, hi, hz0, hz1, hz2⟩ := info_parts info_Ring
  have hmk := fun W => run_make_rowN (P := Tryz.prog) 28 156 i0 _ Tryz.underlying28 hi hz0 .i64 .i64 xs.length xs.length (Nat.le_refl _) (by rw [hz2]; omega) (by omega) W
  rw [hz1] at hmk
  generalize hcs : madeCells (Value.agg #[.int .i64 0, .int .i64 0, .int .i64 0]).cells (xs.length * 3) = cs at hmk
  have hcs' : cs.size = xs.length * 3 := by rw [← hcs, size_madeCells]
  have hF := Fill.start w cs 156
  rw [hcs'] at hF
  have HF := hide hF
  have HX := hide h
  clear hi hz0 hz1 hz2 hcs hcs' hF h
  go_enter Tryz.func73, Tryz.ntmps73
  go_wp2_with fail
  clear hmk
  go_loopw [4] (fun v wr => ∃ k : Nat, v = .int .i64 k ∧ k ≤ xs.length ∧ Filling encRing 3 156 w wr w.heap.size xs k) (fun v _ => xs.length - (intOf v).toNat)
  case atStart => exact ⟨0, rfl, by omega, by simpa using HF.out, (by repeat (first | with_reducible exact Below.refl _ _ | with_reducible assumption | (with_reducible refine Below.drew ?_) | (with_reducible refine below_drewN ?_ _) | ((with_reducible refine Below.alloc ?_ ?_ _); rotate_left; (focus (first | omega | (simp; omega) | simp))) | ((with_reducible refine Below.setCell ?_ ?_ _); rotate_left; (focus (first | omega | (simp; omega) | simp))) | (refine Below.trans ?_ (Below.mono (by assumption) (by first | omega | (simp; omega) | simp)))))⟩
  case round =>
    obtain ⟨k, rfl, hk, hR⟩ := hrel
    by_cases hlt : k < xs.length
    · obtain ⟨b, off, rfl, hbl, hc⟩ := HX.out k hlt
      have hb := hR.2

      have hc0 := (hb.cell (p := ⟨b, off + k * 3 + 0, none⟩) hbl).trans (hc 0 _ rfl)
      have hc1 := (hb.cell (p := ⟨b, off + k * 3 + 1, none⟩) hbl).trans (hc 1 _ rfl)
      have hc2 := (hb.cell (p := ⟨b, off + k * 3 + 2, none⟩) hbl).trans (hc 2 _ rfl)
      simp only [Nat.add_zero] at hc0
      obtain ⟨u0, hu0⟩ := hR.1.cell (j := k * 3) (by omega)
      have hf0 := hR.1.frozen (k * 3)
      obtain ⟨u1, hu1⟩ := hR.1.cell (j := k * 3 + 1) (by omega)
      have hf1 := hR.1.frozen (k * 3 + 1)
      obtain ⟨u2, hu2⟩ := hR.1.cell (j := k * 3 + 2) (by omega)
      have hf2 := hR.1.frozen (k * 3 + 2)
      have hz := hR.1.lt
      have hlen := flat_length (enc := encRing) (sz := 3) (fun _ => rfl) (xs.take k)
      rw [List.length_take, Nat.min_eq_left hk] at hlen
      have ht := take_flat encRing xs k hlt
      have HR := hide hR
      have HT := hide (And.intro hlen ht)
      clear hR hb hlen ht hc
      generalize hx : xs[k] = x at *
      obtain ⟨x0, x1, x2⟩ := x
      clear hx
      simp only at hc0 hc1 hc2
      go_wp2_with fail
      refine (lawstoRing _ _ _ _).mono ?_
      rintro e w1 ⟨rfl, hb1⟩
      obtain ⟨fcb1, ffb1, fzb1⟩ := bfacts hb1 (by first | exact Nat.le_refl _ | omega | (simp; omega) | simp); have fsb1 := hb1.size; try simp at fcb1 ffb1 fzb1 fsb1 hb1
      go_wp2_with fail
      go_roundw
      case rel => exact ⟨k + 1, by go_num, by omega, by
        refine ⟨?_, Below.setCell (Below.setCell (Below.setCell (HR.out.2.trans (hb1.mono (by omega))) (Nat.le_refl _) _) (Nat.le_refl _) _) (Nat.le_refl _) _⟩
        rw [HT.out.2]
        have hp := (((HR.out.1.below hb1 hz).push (m := k * 3) (by simp [HT.out.1]) (by omega) (.int .i64 x0)).push (m := k * 3 + 1) (by simp [HT.out.1]) (by omega) (.int .i64 x1)).push (m := k * 3 + 2) (by simp [HT.out.1]) (by omega) (.int .i64 x2)
        simpa [encRing] using hp⟩
      case measure => simp [intOf]; omega
    · have hR' := hR.1
      rw [List.take_of_length_le (by omega)] at hR'
      have hfin := Fill.fin (enc := encRing) (sz := 3) (fun _ => rfl) hR'
      have hown := Fill.own (enc := encRing) (sz := 3) rfl (Nat.le_trans hn (by decide)) (fun _ => rfl) hR'
      have hz := hR.1.lt
      have HR := hide hR
      have HN := hide hfin
      have HO := hide hown
      clear hR hR' hfin hown
      go_wp2_with fail
      go_ret
      exact ⟨_, rfl, HN.out, Nat.le_refl _, hz, HR.out.2, HO.out⟩
theorem lawstoRingS (A : Option Addr) (c : Nat) (xs : List RingR) (w : World) (h : SlAt encRing 3 w A xs) (hn : xs.length ≤ 1048576) :
    Calls Tryz.prog 73 #[.slice A xs.length c] w fun e w' => ∃ b, e = .returned (.slice (some ⟨b, 0, none⟩) xs.length xs.length) ∧ SlAt encRing 3 w' (some ⟨b, 0, none⟩) xs ∧ w.heap.size ≤ b ∧ b < w'.heap.size ∧ Below w.heap.size w w' :=
  (lawstoRingS_own A c xs w h hn).mono fun _ _ ⟨b, h1, h2, h3, h4, h5, _⟩ => ⟨b, h1, h2, h3, h4, h5⟩
theorem lawstoRingS_o (A : Option Addr) (c : Nat) (xs : List RingR) (w : World) (h : SlAt encRing 3 w A xs) (hn : xs.length ≤ 1048576) :
    Calls Tryz.prog 73 #[.slice A xs.length c] w fun e w' => ∃ b, e = .returned (.slice (some ⟨b, 0, none⟩) xs.length xs.length) ∧ Own encRing 3 156 w' w.heap.size (.slice (some ⟨b, 0, none⟩) xs.length xs.length) xs ∧ Below w.heap.size w w' :=
  (lawstoRingS_own A c xs w h hn).mono fun _ _ ⟨b, h1, _, _, _, h5, h6⟩ => ⟨b, h1, h6, h5⟩
structure CutR where
  zone : Int
  steps : Int
def encCut (x : CutR) : List Value := [.int .i64 x.zone, .int .i64 x.steps]
theorem lawseqRing_same (x0 : Int) (x1 : Int) (x2 : Int) (w : World) : Calls Tryz.prog 135 #[.agg #[.int .i64 x0, .int .i64 x1, .int .i64 x2], .agg #[.int .i64 x0, .int .i64 x1, .int .i64 x2]] w fun e w' => e = .returned (.bool true) ∧ Below w.heap.size w w' := by
  go_enter Tryz.func135, Tryz.ntmps135
  go_wp2
  go_ret
  exact ⟨rfl, (by repeat (first | with_reducible exact Below.refl _ _ | with_reducible assumption | (with_reducible refine Below.drew ?_) | (with_reducible refine below_drewN ?_ _) | ((with_reducible refine Below.alloc ?_ ?_ _); rotate_left; (focus (first | omega | (simp; omega) | simp))) | ((with_reducible refine Below.setCell ?_ ?_ _); rotate_left; (focus (first | omega | (simp; omega) | simp))) | (refine Below.trans ?_ (Below.mono (by assumption) (by first | omega | (simp; omega) | simp)))))⟩
theorem lawseqRingS_same (A A' : Option Addr) (c c' : Nat) (xs : List RingR) (w : World) (h : SlAt encRing 3 w A xs) (h' : SlAt encRing 3 w A' xs) (hn : xs.length ≤ 1048576) :
    Calls Tryz.prog 77 #[.slice A xs.length c, .slice A' xs.length c'] w fun e w' => e = .returned (.bool true) ∧ Below w.heap.size w w' := by
  have HX := hide h
  have HY := hide h'
  clear h h'
  go_enter Tryz.func77, Tryz.ntmps77
  go_wp2_with fail
  go_loopw [5] (fun v wr => ∃ k : Nat, v = .int .i64 k ∧ k ≤ xs.length ∧ Below w.heap.size w wr) (fun v _ => xs.length - (intOf v).toNat)
  case atStart => exact ⟨0, rfl, by omega, (by repeat (first | with_reducible exact Below.refl _ _ | with_reducible assumption | (with_reducible refine Below.drew ?_) | (with_reducible refine below_drewN ?_ _) | ((with_reducible refine Below.alloc ?_ ?_ _); rotate_left; (focus (first | omega | (simp; omega) | simp))) | ((with_reducible refine Below.setCell ?_ ?_ _); rotate_left; (focus (first | omega | (simp; omega) | simp))) | (refine Below.trans ?_ (Below.mono (by assumption) (by first | omega | (simp; omega) | simp)))))⟩
  case round =>
    obtain ⟨k, rfl, hk, hb⟩ := hrel
    by_cases hlt : k < xs.length
    · obtain ⟨b, off, rfl, hbl, hc⟩ := HX.out.below hb k hlt
      obtain ⟨b2, off2, rfl, hbl2, hd⟩ := HY.out.below hb k hlt
      have hc0 := hc 0 _ rfl
      have hd0 := hd 0 _ rfl
      have hc1 := hc 1 _ rfl
      have hd1 := hd 1 _ rfl
      have hc2 := hc 2 _ rfl
      have hd2 := hd 2 _ rfl
      simp only [Nat.add_zero] at hc0 hd0
      have hz := hb.size
      have HB := hide hb
      clear hc hd
      generalize hx : xs[k] = x at *
      clear hx
      obtain ⟨x0, x1, x2⟩ := x
      simp only at hc0 hd0 hc1 hd1 hc2 hd2
      go_wp2_with fail
      refine wp_region_kept (by kernel_rfl) (by kernel_rfl) ?_
      intro gc gf gz
      repeat (go_big_quiet_step ((go_at_call 135; exact Calls.kept (lawseqRing_same x0 x1 x2 _))))
      refine wpQuiet_nil ?_
      intro w1 hw'
      obtain ⟨⟨_, hb1⟩, rfl⟩ := hw'
      clear gc gf gz
      try dsimp only
      have fs1 := hb1.size
      try simp at fs1 hb1
      go_wp2_with fail
      go_roundw
      case rel => exact ⟨k + 1, by go_num, by omega, (by repeat (first | with_reducible exact Below.refl _ _ | with_reducible assumption | (with_reducible refine Below.drew ?_) | (with_reducible refine below_drewN ?_ _) | ((with_reducible refine Below.alloc ?_ ?_ _); rotate_left; (focus (first | omega | (simp; omega) | simp))) | ((with_reducible refine Below.setCell ?_ ?_ _); rotate_left; (focus (first | omega | (simp; omega) | simp))) | (refine Below.trans ?_ (Below.mono (by assumption) (by first | omega | (simp; omega) | simp)))))⟩
      case measure => simp [intOf]; omega
    · go_wp2_with fail
      go_ret
      exact ⟨rfl, hb⟩
def mkRing (k : Int) : RingR := ⟨k, (k + 1), (k + 1 + 1)⟩
def marksRing (k : Int) (n : Nat) : List RingR := (List.range n).map fun i : Nat => mkRing (k + 3 * (i : Int))
theorem marksRing_length (k : Int) (n : Nat) : (marksRing k n).length = n := by simp [marksRing]
theorem marksRing_get (k : Int) (n j : Nat) (h : j < n) : (marksRing k n)[j]'(by rw [marksRing_length]; exact h) = mkRing (k + 3 * (j : Int)) := by simp [marksRing]
theorem marksRing_succ (k : Int) (n : Nat) : marksRing k (n + 1) = marksRing k n ++ [mkRing (k + 3 * (n : Int))] := by simp [marksRing, List.range_succ]
theorem set_markRing {xs : List RingR} {k : Int} {i : Nat} (h : i < xs.length) : (((((marksRing k i ++ xs.drop i).flatMap encRing).set (i * 3) (.int .i64 (k + 3 * (i : Int)))).set (i * 3 + 1) (.int .i64 (k + 3 * (i : Int) + 1))).set (i * 3 + 2) (.int .i64 (k + 3 * (i : Int) + 1 + 1))) = (marksRing k (i + 1) ++ xs.drop (i + 1)).flatMap encRing := by
  have hl := flat_length (enc := encRing) (sz := 3) (fun _ => rfl) (marksRing k i)
  rw [marksRing_length] at hl
  rw [marksRing_succ, List.drop_eq_getElem_cons h, List.flatMap_append, List.flatMap_append, List.flatMap_append, List.flatMap_cons, List.flatMap_cons, List.flatMap_nil, List.append_nil, List.append_assoc]
  generalize (marksRing k i).flatMap encRing = A at *
  rw [← hl]
  generalize (xs.drop (i + 1)).flatMap encRing = C
  unfold mkRing encRing
  simp
theorem storesRing {w0 w : World} {g B T m c i : Nat} {cs : List Value} (v0 v1 v2 : Value) (h : w.ownsRow B T 3 (.slice (some ⟨g, 0, none⟩) m c) m cs) (hg : w0.grownBy w (some g)) :
    (((w.setCell ⟨g, i * 3, none⟩ (v0)).setCell ⟨g, i * 3 + 1, none⟩ (v1)).setCell ⟨g, i * 3 + 2, none⟩ (v2)).ownsRow B T 3 (.slice (some ⟨g, 0, none⟩) m c) m (((cs.set (i * 3) (v0)).set (i * 3 + 1) (v1)).set (i * 3 + 2) (v2)) ∧ w0.grownBy (((w.setCell ⟨g, i * 3, none⟩ (v0)).setCell ⟨g, i * 3 + 1, none⟩ (v1)).setCell ⟨g, i * 3 + 2, none⟩ (v2)) (some g) := by
  have s0 := World.ownsRow.stored h (i * 3) v0
  have t0 := grown_trans hg s0.2
  have s1 := World.ownsRow.stored s0.1 (i * 3 + 1) v1
  have t1 := grown_trans t0 s1.2
  have s2 := World.ownsRow.stored s1.1 (i * 3 + 2) v2
  have t2 := grown_trans t1 s2.2
  exact ⟨s2.1, t2⟩
set_option maxRecDepth 100000 in
theorem lawsmarkRingS (A : Option Addr) (c B : Nat) (xs : List RingR) (k : Int) (w : World) (h : Own encRing 3 156 w B (.slice A xs.length c) xs) (hn : xs.length ≤ 1048576) (k0 : 1 ≤ k) (k1 : k ≤ 100000000000) :
    Calls Tryz.prog 82 #[.slice A xs.length c, .int .i64 k] w fun e w' => e = .returned (.int .i64 (k + 3 * xs.length)) ∧ Own encRing 3 156 w' B (.slice A xs.length c) (marksRing k xs.length) ∧ w.grownBy w' (Value.slice A xs.length c).ownBlock := by
  have HX := hide h
  clear h
  go_enter Tryz.func82, Tryz.ntmps82
  go_wp2_with fail
  go_loopw [5, 1] (fun v q wr => ∃ i : Nat, v = .int .i64 i ∧ q = .int .i64 (k + 3 * i) ∧ i ≤ xs.length ∧ Hid (wr.ownsRow B 156 3 (.slice A xs.length c) xs.length ((marksRing k i ++ xs.drop i).flatMap encRing) ∧ w.grownBy wr (Value.slice A xs.length c).ownBlock)) (fun v _ _ => xs.length - (intOf v).toNat)
  case atStart => exact ⟨0, rfl, by simp, by omega, hide ⟨by have q : w.ownsRow B 156 3 (.slice A xs.length c) xs.length (xs.flatMap encRing) := HX.out; simpa [marksRing] using q, World.grownBy.refl _ _⟩⟩
  case round =>
    obtain ⟨i, rfl, rfl, hi, hR⟩ := hrel
    by_cases hlt : i < xs.length
    · obtain ⟨g, rfl, hg1, hg2⟩ := own_addr hR.out.1 (by omega)
      have hl := flat_length (enc := encRing) (sz := 3) (fun _ => rfl) (marksRing k i ++ xs.drop i)
      rw [List.length_append, marksRing_length, List.length_drop, show i + (xs.length - i) = xs.length by omega] at hl
      obtain ⟨u0, hu0⟩ : ∃ u, wr.cell? ⟨g, i * 3, none⟩ = some u := ⟨_, (World.ownsRow.cellAt hR.out.1 (i * 3) (by omega)).trans (List.getElem?_eq_getElem (by omega))⟩
      have hf0 := World.ownsRow.frozenAt hR.out.1 (i * 3)
      obtain ⟨u1, hu1⟩ : ∃ u, wr.cell? ⟨g, i * 3 + 1, none⟩ = some u := ⟨_, (World.ownsRow.cellAt hR.out.1 (i * 3 + 1) (by omega)).trans (List.getElem?_eq_getElem (by omega))⟩
      have hf1 := World.ownsRow.frozenAt hR.out.1 (i * 3 + 1)
      obtain ⟨u2, hu2⟩ : ∃ u, wr.cell? ⟨g, i * 3 + 2, none⟩ = some u := ⟨_, (World.ownsRow.cellAt hR.out.1 (i * 3 + 2) (by omega)).trans (List.getElem?_eq_getElem (by omega))⟩
      have hf2 := World.ownsRow.frozenAt hR.out.1 (i * 3 + 2)
      clear hl
      have hr1 := hide hR.out.1
      have hgr := hide hR.out.2
      have q := storesRing (i := i) (.int .i64 (k + 3 * (i : Int))) (.int .i64 (k + 3 * (i : Int) + 1)) (.int .i64 (k + 3 * (i : Int) + 1 + 1)) hr1.out hgr.out
      rw [set_markRing hlt] at q
      have Q := hide q
      clear q
      go_wp2_with fail
      go_roundw
      case rel => exact ⟨i + 1, by go_num, by go_num, by omega, Q⟩
      case measure => simp [intOf]; omega
    · obtain rfl : i = xs.length := by omega
      have hR' := hR.out
      rw [List.drop_length, List.append_nil] at hR'
      have HN := hide hR'
      clear hR hR'
      go_wp2_with fail
      go_ret
      exact ⟨rfl, by have := HN.out.1; unfold Own; rwa [marksRing_length], HN.out.2⟩
theorem lawseqCut_same (x0 : Int) (x1 : Int) (w : World) : Calls Tryz.prog 79 #[.agg #[.int .i64 x0, .int .i64 x1], .agg #[.int .i64 x0, .int .i64 x1]] w fun e w' => e = .returned (.bool true) ∧ Below w.heap.size w w' := by
  go_enter Tryz.func79, Tryz.ntmps79
  go_wp2
  go_ret
  exact ⟨rfl, (by repeat (first | with_reducible exact Below.refl _ _ | with_reducible assumption | (with_reducible refine Below.drew ?_) | (with_reducible refine below_drewN ?_ _) | ((with_reducible refine Below.alloc ?_ ?_ _); rotate_left; (focus (first | omega | (simp; omega) | simp))) | ((with_reducible refine Below.setCell ?_ ?_ _); rotate_left; (focus (first | omega | (simp; omega) | simp))) | (refine Below.trans ?_ (Below.mono (by assumption) (by first | omega | (simp; omega) | simp)))))⟩
theorem lawseqCutS_same (A A' : Option Addr) (c c' : Nat) (xs : List CutR) (w : World) (h : SlAt encCut 2 w A xs) (h' : SlAt encCut 2 w A' xs) (hn : xs.length ≤ 1048576) :
    Calls Tryz.prog 32 #[.slice A xs.length c, .slice A' xs.length c'] w fun e w' => e = .returned (.bool true) ∧ Below w.heap.size w w' := by
  have HX := hide h
  have HY := hide h'
  clear h h'
  go_enter Tryz.func32, Tryz.ntmps32
  go_wp2_with fail
  go_loopw [5] (fun v wr => ∃ k : Nat, v = .int .i64 k ∧ k ≤ xs.length ∧ Below w.heap.size w wr) (fun v _ => xs.length - (intOf v).toNat)
  case atStart => exact ⟨0, rfl, by omega, (by repeat (first | with_reducible exact Below.refl _ _ | with_reducible assumption | (with_reducible refine Below.drew ?_) | (with_reducible refine below_drewN ?_ _) | ((with_reducible refine Below.alloc ?_ ?_ _); rotate_left; (focus (first | omega | (simp; omega) | simp))) | ((with_reducible refine Below.setCell ?_ ?_ _); rotate_left; (focus (first | omega | (simp; omega) | simp))) | (refine Below.trans ?_ (Below.mono (by assumption) (by first | omega | (simp; omega) | simp)))))⟩
  case round =>
    obtain ⟨k, rfl, hk, hb⟩ := hrel
    by_cases hlt : k < xs.length
    · obtain ⟨b, off, rfl, hbl, hc⟩ := HX.out.below hb k hlt
      obtain ⟨b2, off2, rfl, hbl2, hd⟩ := HY.out.below hb k hlt
      have hc0 := hc 0 _ rfl
      have hd0 := hd 0 _ rfl
      have hc1 := hc 1 _ rfl
      have hd1 := hd 1 _ rfl
      simp only [Nat.add_zero] at hc0 hd0
      have hz := hb.size
      have HB := hide hb
      clear hc hd
      generalize hx : xs[k] = x at *
      clear hx
      obtain ⟨x0, x1⟩ := x
      simp only at hc0 hd0 hc1 hd1
      go_wp2_with fail
      refine wp_region_kept (by kernel_rfl) (by kernel_rfl) ?_
      intro gc gf gz
      repeat (go_big_quiet_step ((go_at_call 79; exact Calls.kept (lawseqCut_same x0 x1 _))))
      refine wpQuiet_nil ?_
      intro w1 hw'
      obtain ⟨⟨_, hb1⟩, rfl⟩ := hw'
      clear gc gf gz
      try dsimp only
      have fs1 := hb1.size
      try simp at fs1 hb1
      go_wp2_with fail
      go_roundw
      case rel => exact ⟨k + 1, by go_num, by omega, (by repeat (first | with_reducible exact Below.refl _ _ | with_reducible assumption | (with_reducible refine Below.drew ?_) | (with_reducible refine below_drewN ?_ _) | ((with_reducible refine Below.alloc ?_ ?_ _); rotate_left; (focus (first | omega | (simp; omega) | simp))) | ((with_reducible refine Below.setCell ?_ ?_ _); rotate_left; (focus (first | omega | (simp; omega) | simp))) | (refine Below.trans ?_ (Below.mono (by assumption) (by first | omega | (simp; omega) | simp)))))⟩
      case measure => simp [intOf]; omega
    · go_wp2_with fail
      go_ret
      exact ⟨rfl, hb⟩
def mkCut (k : Int) : CutR := ⟨k, (k + 1)⟩
def marksCut (k : Int) (n : Nat) : List CutR := (List.range n).map fun i : Nat => mkCut (k + 2 * (i : Int))
theorem marksCut_length (k : Int) (n : Nat) : (marksCut k n).length = n := by simp [marksCut]
theorem marksCut_get (k : Int) (n j : Nat) (h : j < n) : (marksCut k n)[j]'(by rw [marksCut_length]; exact h) = mkCut (k + 2 * (j : Int)) := by simp [marksCut]
theorem marksCut_succ (k : Int) (n : Nat) : marksCut k (n + 1) = marksCut k n ++ [mkCut (k + 2 * (n : Int))] := by simp [marksCut, List.range_succ]
theorem set_markCut {xs : List CutR} {k : Int} {i : Nat} (h : i < xs.length) : ((((marksCut k i ++ xs.drop i).flatMap encCut).set (i * 2) (.int .i64 (k + 2 * (i : Int)))).set (i * 2 + 1) (.int .i64 (k + 2 * (i : Int) + 1))) = (marksCut k (i + 1) ++ xs.drop (i + 1)).flatMap encCut := by
  have hl := flat_length (enc := encCut) (sz := 2) (fun _ => rfl) (marksCut k i)
  rw [marksCut_length] at hl
  rw [marksCut_succ, List.drop_eq_getElem_cons h, List.flatMap_append, List.flatMap_append, List.flatMap_append, List.flatMap_cons, List.flatMap_cons, List.flatMap_nil, List.append_nil, List.append_assoc]
  generalize (marksCut k i).flatMap encCut = A at *
  rw [← hl]
  generalize (xs.drop (i + 1)).flatMap encCut = C
  unfold mkCut encCut
  simp
theorem storesCut {w0 w : World} {g B T m c i : Nat} {cs : List Value} (v0 v1 : Value) (h : w.ownsRow B T 2 (.slice (some ⟨g, 0, none⟩) m c) m cs) (hg : w0.grownBy w (some g)) :
    ((w.setCell ⟨g, i * 2, none⟩ (v0)).setCell ⟨g, i * 2 + 1, none⟩ (v1)).ownsRow B T 2 (.slice (some ⟨g, 0, none⟩) m c) m ((cs.set (i * 2) (v0)).set (i * 2 + 1) (v1)) ∧ w0.grownBy ((w.setCell ⟨g, i * 2, none⟩ (v0)).setCell ⟨g, i * 2 + 1, none⟩ (v1)) (some g) := by
  have s0 := World.ownsRow.stored h (i * 2) v0
  have t0 := grown_trans hg s0.2
  have s1 := World.ownsRow.stored s0.1 (i * 2 + 1) v1
  have t1 := grown_trans t0 s1.2
  exact ⟨s1.1, t1⟩
set_option maxRecDepth 100000 in
theorem lawsmarkCutS (A : Option Addr) (c B : Nat) (xs : List CutR) (k : Int) (w : World) (h : Own encCut 2 101 w B (.slice A xs.length c) xs) (hn : xs.length ≤ 1048576) (k0 : 1 ≤ k) (k1 : k ≤ 100000000000) :
    Calls Tryz.prog 35 #[.slice A xs.length c, .int .i64 k] w fun e w' => e = .returned (.int .i64 (k + 2 * xs.length)) ∧ Own encCut 2 101 w' B (.slice A xs.length c) (marksCut k xs.length) ∧ w.grownBy w' (Value.slice A xs.length c).ownBlock := by
  have HX := hide h
  clear h
  go_enter Tryz.func35, Tryz.ntmps35
  go_wp2_with fail
  go_loopw [5, 1] (fun v q wr => ∃ i : Nat, v = .int .i64 i ∧ q = .int .i64 (k + 2 * i) ∧ i ≤ xs.length ∧ Hid (wr.ownsRow B 101 2 (.slice A xs.length c) xs.length ((marksCut k i ++ xs.drop i).flatMap encCut) ∧ w.grownBy wr (Value.slice A xs.length c).ownBlock)) (fun v _ _ => xs.length - (intOf v).toNat)
  case atStart => exact ⟨0, rfl, by simp, by omega, hide ⟨by have q : w.ownsRow B 101 2 (.slice A xs.length c) xs.length (xs.flatMap encCut) := HX.out; simpa [marksCut] using q, World.grownBy.refl _ _⟩⟩
  case round =>
    obtain ⟨i, rfl, rfl, hi, hR⟩ := hrel
    by_cases hlt : i < xs.length
    · obtain ⟨g, rfl, hg1, hg2⟩ := own_addr hR.out.1 (by omega)
      have hl := flat_length (enc := encCut) (sz := 2) (fun _ => rfl) (marksCut k i ++ xs.drop i)
      rw [List.length_append, marksCut_length, List.length_drop, show i + (xs.length - i) = xs.length by omega] at hl
      obtain ⟨u0, hu0⟩ : ∃ u, wr.cell? ⟨g, i * 2, none⟩ = some u := ⟨_, (World.ownsRow.cellAt hR.out.1 (i * 2) (by omega)).trans (List.getElem?_eq_getElem (by omega))⟩
      have hf0 := World.ownsRow.frozenAt hR.out.1 (i * 2)
      obtain ⟨u1, hu1⟩ : ∃ u, wr.cell? ⟨g, i * 2 + 1, none⟩ = some u := ⟨_, (World.ownsRow.cellAt hR.out.1 (i * 2 + 1) (by omega)).trans (List.getElem?_eq_getElem (by omega))⟩
      have hf1 := World.ownsRow.frozenAt hR.out.1 (i * 2 + 1)
      clear hl
      have hr1 := hide hR.out.1
      have hgr := hide hR.out.2
      have q := storesCut (i := i) (.int .i64 (k + 2 * (i : Int))) (.int .i64 (k + 2 * (i : Int) + 1)) hr1.out hgr.out
      rw [set_markCut hlt] at q
      have Q := hide q
      clear q
      go_wp2_with fail
      go_roundw
      case rel => exact ⟨i + 1, by go_num, by go_num, by omega, Q⟩
      case measure => simp [intOf]; omega
    · obtain rfl : i = xs.length := by omega
      have hR' := hR.out
      rw [List.drop_length, List.append_nil] at hR'
      have HN := hide hR'
      clear hR hR'
      go_wp2_with fail
      go_ret
      exact ⟨rfl, by have := HN.out.1; unfold Own; rwa [marksCut_length], HN.out.2⟩
set_option maxRecDepth 100000 in
theorem lawsheldCutS (A : Option Addr) (c : Nat) (n : Nat) (k : Int) (w : World) (h : SlAt encCut 2 w A (marksCut k n)) (hn : n ≤ 1048576) (k0 : 1 ≤ k) (k1 : k ≤ 100000000000) :
    Calls Tryz.prog 36 #[.slice A n c, .int .i64 k] w fun e w' => e = .returned (.int .i64 (k + 2 * n)) ∧ Below w.heap.size w w' := by
  have HX := hide h
  clear h
  go_enter Tryz.func36, Tryz.ntmps36
  go_wp2_with fail
  go_loopw [5, 1] (fun v q wr => ∃ i : Nat, v = .int .i64 i ∧ q = .int .i64 (k + 2 * i) ∧ i ≤ n ∧ Below w.heap.size w wr) (fun v _ _ => n - (intOf v).toNat)
  case atStart => exact ⟨0, rfl, by simp, by omega, (by repeat (first | with_reducible exact Below.refl _ _ | with_reducible assumption | (with_reducible refine Below.drew ?_) | (with_reducible refine below_drewN ?_ _) | ((with_reducible refine Below.alloc ?_ ?_ _); rotate_left; (focus (first | omega | (simp; omega) | simp))) | ((with_reducible refine Below.setCell ?_ ?_ _); rotate_left; (focus (first | omega | (simp; omega) | simp))) | (refine Below.trans ?_ (Below.mono (by assumption) (by first | omega | (simp; omega) | simp)))))⟩
  case round =>
    obtain ⟨i, rfl, rfl, hi, hb⟩ := hrel
    by_cases hlt : i < n
    · obtain ⟨b, off, rfl, hbl, hc⟩ := HX.out.below hb i (by rw [marksCut_length]; exact hlt)
      rw [marksCut_get _ _ _ hlt] at hc
      have hc0 := hc 0 _ rfl
      have hc1 := hc 1 _ rfl
      simp only [mkCut, Nat.add_zero] at hc0 hc1
      have HB := hide hb
      have hz := hb.size
      clear hc hb
      have HB2 := HB
      go_wp2_with fail
      go_roundw
      case rel => exact ⟨i + 1, by go_num, by go_num, by omega, by first | exact HB2.out | exact below_drewN HB2.out _⟩
      case measure => simp [intOf]; omega
    · obtain rfl : i = n := by omega
      go_wp2_with fail
      go_ret
      exact ⟨rfl, hb⟩
theorem held_own_Cut {B c : Nat} {A : Option Addr} {n : Nat} {k : Int} {w : World} (h : Own encCut 2 101 w B (.slice A n c) (marksCut k n)) (hn : n ≤ 1048576) (k0 : 1 ≤ k) (k1 : k ≤ 100000000000) :
    Calls Tryz.prog 36 #[.slice A n c, .int .i64 k] w fun e w' => e = .returned (.int .i64 (k + 2 * n)) ∧ Below w.heap.size w w' :=
  lawsheldCutS A c n k w (Own.at_ (B := B) (c := c) (T := 101) (enc := encCut) (sz := 2) (fun _ => rfl) (by rw [marksCut_length]; exact h)) hn k0 k1
end Go.Proofs.YtnefgafmnpblpaaGreat
