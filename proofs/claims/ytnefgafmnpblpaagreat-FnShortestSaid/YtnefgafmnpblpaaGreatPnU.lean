/- Contracts: how many steps zones allow, the limits of a search, on both sides. -/
import Derived.Test.YtnefgafmnpblpaaGreatPnT2
namespace Go.Proofs.YtnefgafmnpblpaaGreat
open Go.RowKit Pn

theorem own_set1 {α : Type} {enc : α → List Value} {f : α → Value} {T : TypeId} {w : World} {B g n c k : Nat} {xs : List α} (he : ∀ x, enc x = [f x]) (h : Own enc 1 T w B (.slice (some ⟨g, 0, none⟩) n c) xs) (y : α) : Own enc 1 T (w.setCell ⟨g, k, none⟩ (f y)) B (.slice (some ⟨g, 0, none⟩) n c) (xs.set k y) := by
  have hfl : ∀ l : List α, l.flatMap enc = l.map f := fun l => by
    induction l with
    | nil => rfl
    | cons a l ih => rw [List.flatMap_cons, he, ih]; rfl
  have hn : n = xs.length := by
    rcases h.2 with ⟨e, h0⟩ | ⟨g2, cap, cur, e, _⟩
    · cases e
    · injection e
  subst hn
  unfold Own at h ⊢
  rw [hfl, List.map_set, List.length_set]
  rw [hfl] at h
  exact (World.ownsRow.stored h k (f y)).1
/-- What a row's element reads. -/
theorem own_get1 {w : World} {B n c k : Nat} {A : Option Addr} {xs : List Int} (h : OwnI w B (.slice A n c) xs) (hk : k < xs.length) : ∃ g, A = some ⟨g, 0, none⟩ ∧ B ≤ g ∧ g < w.heap.size ∧ w.cell? ⟨g, k, none⟩ = some (.int .i64 (ig xs k)) ∧ w.frozen? ⟨g, k, none⟩ = false := by
  have hn : n = xs.length := by
    rcases h.2 with ⟨e, h0⟩ | ⟨g2, cap, cur, e, _⟩
    · rw [h0] at hk; omega
    · injection e
  subst hn
  obtain ⟨g, rfl, h1, h2⟩ := own_addr h (by omega)
  refine ⟨g, rfl, h1, h2, ?_, World.ownsRow.frozenAt h k⟩
  rw [World.ownsRow.cellAt h k (by omega), encI_map, List.getElem?_map, List.getElem?_eq_getElem hk, ← ig_eq hk]
  rfl
theorem own_zeros {w : World} {B n : Nat} (hB : B ≤ w.heap.size) (hn : n ≤ maxLen) : OwnI (w.alloc (.cells (madeCells (Value.int .i64 0).cells (n * 1)) 2)) B (.slice (some ⟨w.heap.size, 0, none⟩) n n) (List.replicate n 0) := by
  have hl : (List.replicate n (0 : Int)).length = n := List.length_replicate
  have hz : (Value.int .i64 0).cells = #[.int .i64 0] := rfl
  have hf : (List.replicate n (0 : Int)).flatMap encI = List.replicate n (.int .i64 0) := by rw [encI_map, List.map_replicate]
  refine ⟨by rw [hf]; simp, .inr ⟨w.heap.size, n, _, by rw [hl], hB, heap_alloc_new w _, by rw [hl]; exact Nat.le_refl _, hn, size_madeCells _ _, ?_⟩⟩
  rw [hf, hz, toList_madeCells_one, hl, List.take_replicate, Nat.min_self, Nat.mul_one]
theorem alloc_set (w : World) (cs : Array Value) (T : TypeId) (j : Nat) (v : Value) : (w.alloc (.cells cs T)).setCell ⟨w.heap.size, j, none⟩ v = w.alloc (.cells (cs.setIfInBounds j v) T) := by
  have h : ((w.alloc (.cells cs T)).setCell ⟨w.heap.size, j, none⟩ v).heap = (w.alloc (.cells (cs.setIfInBounds j v) T)).heap := by
    apply Array.ext_getElem?
    intro i
    by_cases hi : i = w.heap.size
    · subst hi
      rw [heap_set' v (heap_alloc_new w (.cells cs T))]
      exact (heap_alloc_new w _).symm
    · rw [heap_other hi]
      by_cases hl : i < w.heap.size
      · rw [heap_alloc_old _ _ hl, heap_alloc_old _ _ hl]
      · rw [Array.getElem?_eq_none (by simp; omega), Array.getElem?_eq_none (by simp; omega)]
  have e1 : (w.alloc (.cells cs T)).setCell ⟨w.heap.size, j, none⟩ v = { w with heap := ((w.alloc (.cells cs T)).setCell ⟨w.heap.size, j, none⟩ v).heap } := rfl
  have e2 : w.alloc (.cells (cs.setIfInBounds j v) T) = { w with heap := (w.alloc (.cells (cs.setIfInBounds j v) T)).heap } := rfl
  exact e1.trans ((congrArg (fun x => ({ w with heap := x } : World)) h).trans e2.symm)
theorem turn_congr {zs st st' : List Int} {rs : List RingR} (h : ∀ k, ig st k = ig st' k) : turn zs st rs = turn zs st' rs := by
  unfold turn
  congr 1
  funext i r
  unfold cutR
  rw [h]
theorem ig_rep (n k : Nat) : ig (List.replicate n 0) k = 0 := by
  unfold ig
  rw [List.getD_eq_getElem?_getD, List.getElem?_replicate]
  split <;> rfl
theorem ig_set (l : List Int) (z k : Nat) (v : Int) (h : z < l.length) : ig (l.set z v) k = if k = z then v else ig l k := by
  unfold ig
  rw [List.getD_eq_getElem?_getD, List.getD_eq_getElem?_getD, List.getElem?_set]
  by_cases e : z = k
  · subst e; rw [if_pos rfl, if_pos rfl, if_pos h]; rfl
  · rw [if_neg e, if_neg (fun q => e q.symm)]
theorem ig_only (z k : Nat) (v : Int) : ig (only z v) k = if k = z then v else 0 := by
  unfold ig only
  rw [List.getD_eq_getElem?_getD]
  by_cases e : k = z
  · subst e
    rw [List.getElem?_append_right (by simp)]
    simp
  · rw [if_neg e]
    by_cases h : k < z
    · rw [List.getElem?_append_left (by simpa using h), List.getElem?_replicate, if_pos h]; rfl
    · rw [List.getElem?_eq_none (by simp; omega)]; rfl
theorem turn_only (zs : List Int) (rs : List RingR) (m z : Nat) (v : Int) (h : z < m) : turn zs ((List.replicate m 0).set z v) rs = turn zs (only z v) rs :=
  turn_congr fun k => by rw [ig_set _ _ _ _ (by simpa using h), ig_only, ig_rep]
theorem small_only (m z : Nat) (v : Int) (h : z < m) (h0 : 0 ≤ v) (h1 : v ≤ 1000) : SmallI ((List.replicate m 0).set z v) := fun k => by
  rw [ig_set _ _ _ _ (by simpa using h), ig_rep]
  split <;> omega
theorem roomTo_yes {zs : List Int} {rs : List RingR} {z n m : Nat} (h : RingsOK (turn zs (only z ((n : Int) + 1)) rs)) : roomTo zs rs z n (m + 1) = roomTo zs rs z (n + 1) m := by
  rw [roomTo, dc_true h]; rfl
theorem roomTo_no {zs : List Int} {rs : List RingR} {z n m : Nat} (h : ¬ RingsOK (turn zs (only z ((n : Int) + 1)) rs)) : roomTo zs rs z n (m + 1) = n := by
  rw [roomTo, dc_false h]; rfl
theorem prof_dc {nm : ByteArray} {rs : List RingR} (h : nameB nm.data.toList = true) : profB nm rs = dc (RingsOK rs) := by unfold profB; rw [h]; rfl
set_option maxRecDepth 100000 in
set_option maxHeartbeats 1000000 in
theorem implmostSteps (nm : ByteArray) (A : Option Addr) (c : Nat) (rs : List RingR) (Az : Option Addr) (cz : Nat) (zs : List Int) (z : Nat) (w : World) (h : SlAt encRing 3 w A rs) (hz : SlAt encI 1 w Az zs) (HN : Hid (nameB nm.data.toList = true)) (hs : nm.size ≤ maxLen) (HR : Hid (RingsOK rs)) (HZO : Hid (ZonesOK zs rs.length)) (hzl : z < zs.length) :
    Calls Tryz.prog 163 #[.agg #[.string nm, .slice A rs.length c], .slice Az zs.length cz, .int .i64 z] w fun e w' => e = .returned (.int .i64 (room zs rs z)) ∧ Below w.heap.size w w' := by
  have hb0 : Below w.heap.size w (w.alloc (.cells #[.string nm, .slice A rs.length c] 30)) := (by repeat (first | with_reducible exact Below.refl _ _ | with_reducible assumption | (with_reducible refine Below.drew ?_) | (with_reducible refine below_drewN ?_ _) | ((with_reducible refine Below.alloc ?_ ?_ _); rotate_left; (focus (first | omega | (simp; omega) | simp))) | ((with_reducible refine Below.setCell ?_ ?_ _); rotate_left; (focus (first | omega | (simp; omega) | simp))) | (refine Below.trans ?_ (Below.mono (by assumption) (by first | omega | (simp; omega) | simp)))))
  have HP := hide (ProfAt.new (nm := nm) (c := c) h)
  have HZ := hide (hz.below hb0)
  have HB0 := hide hb0
  have HF := hide (show room zs rs z = roomTo zs rs z 0 20 by unfold room; rfl)
  have hz8 := HZO.out.len8
  obtain ⟨i0, hi, hz0, hz1, hz2⟩ := info_parts info_i64
  have hmk := fun W => run_make_rowN (P := Tryz.prog) 24 2 i0 _ Tryz.underlying24 hi hz0 .i64 .i64 zs.length zs.length (Nat.le_refl _) (by rw [hz2]; omega) (by omega) W
  rw [hz1] at hmk
  have HO := hide (fun W : World => own_zeros (w := W) (B := W.heap.size) (n := zs.length) (Nat.le_refl _) (by unfold maxLen; omega))
  generalize madeCells (Value.int .i64 0).cells (zs.length * 1) = cs at hmk HO
  clear h hz hb0 hi hz0 hz1 hz2
  go_enter Tryz.func163, Tryz.ntmps163
  go_wp2_with fail
  generalize w.alloc (.cells #[.string nm, .slice A rs.length c] 30) = w0 at *
  have HBF := HB0
  go_loopw [7, 8] (fun v _ wr => ∃ k : Nat, v = .int .i64 ((k : Int) + 1) ∧ k ≤ 20 ∧ Hid (roomTo zs rs z k (20 - k) = room zs rs z) ∧ Hid (Below w0.heap.size w0 wr)) (fun v _ _ => 21 - (intOf v).toNat)
  case atStart => exact ⟨0, rfl, by omega, hide HF.out.symm, hide (Below.refl _ _)⟩
  case round =>
    obtain ⟨k, rfl, hk, HK, HB⟩ := hrel
    have hzw := HB.out.size
    by_cases hlt : k < 20
    · have HPr := hide (HP.out.below HB.out)
      have HZr := hide (HZ.out.below HB.out)
      have HOr := hide (HO.out wr)
      have hb1 : Below wr.heap.size wr (wr.alloc (.cells cs 2)) := (by repeat (first | with_reducible exact Below.refl _ _ | with_reducible assumption | (with_reducible refine Below.drew ?_) | (with_reducible refine below_drewN ?_ _) | ((with_reducible refine Below.alloc ?_ ?_ _); rotate_left; (focus (first | omega | (simp; omega) | simp))) | ((with_reducible refine Below.setCell ?_ ?_ _); rotate_left; (focus (first | omega | (simp; omega) | simp))) | (refine Below.trans ?_ (Below.mono (by assumption) (by first | omega | (simp; omega) | simp)))))
      obtain ⟨g, hg, hg1, hg2, g1, g2⟩ := own_get1 (k := z) HOr.out (by simpa using hzl)
      injection hg with hg; injection hg with hg
      subst hg
      have HO2 := hide (own_set1 (f := fun x : Int => .int .i64 x) (fun _ => rfl) HOr.out (k := z) ((k : Int) + 1))
      have hb2 : Below wr.heap.size wr ((wr.alloc (.cells cs 2)).setCell ⟨wr.heap.size, z, none⟩ (.int .i64 ((k : Int) + 1))) := hb1.setCell (Nat.le_refl _) _
      have HP2 := hide (HPr.out.below hb2)
      have HZ2 := hide (HZr.out.below hb2)
      have HB2 := hide hb2
      obtain ⟨W2, hW2⟩ : ∃ W2, W2 = wr.alloc (.cells (cs.setIfInBounds z (.int .i64 ((k : Int) + 1))) 2) := ⟨_, rfl⟩
      have eW : (wr.alloc (.cells cs 2)).setCell ⟨wr.heap.size, z, none⟩ (.int .i64 ((k : Int) + 1)) = W2 := by rw [hW2]; exact alloc_set _ _ _ _ _
      rw [eW] at HO2 HP2 HZ2 HB2
      have hcon := implturned nm A c rs Az (some ⟨wr.heap.size, 0, none⟩) cz zs.length zs ((List.replicate zs.length 0).set z ((k : Int) + 1)) W2 HP2.out.sl HZ2.out (OwnI.sl HO2.out (by simp)) HR.out.len32 HR.out.len1 HZO (by simp) (by simp; omega) (hide (small_only _ _ _ hzl (by omega) (by omega))) (hide HR.out.inner)
      rw [turn_only zs rs zs.length z _ hzl, List.length_set, List.length_replicate] at hcon
      have HCON := hide hcon
      have hzi : (z : Int) < zs.length := by omega
      clear hb1 hb2 HOr HPr HZr hcon eW
      go_upto_region 6 with fail
      rw [← hW2]
      clear hW2
      have p0 := HP2.out.c0
      have p1 := HP2.out.c1
      have pl := HP2.out.lt
      go_wp2_with fail
      refine HCON.out.mono ?_
      rintro e w3 ⟨A3, c3, rfl, ho3, hb3⟩
      have HO3 := hide ho3
      have HB3 := hide (HB2.out.trans (hb3.mono HB2.out.size))
      clear hb3 ho3 HCON p0 p1 pl HO2 HP2 HZ2 HB2 HB0
      have ht32 : (turn zs (only z ((k : Int) + 1)) rs).length ≤ 1048576 := by rw [turn_length]; have := HR.out.len32; omega
      have HSL := hide (Own.at_ (enc := encRing) (fun _ => rfl) HO3.out)
      have HPD := hide (prof_dc (rs := turn zs (only z ((k : Int) + 1)) rs) HN.out)
      go_wp2_with fail
      refine (implValidProfile nm A3 c3 (turn zs (only z ((k : Int) + 1)) rs) w3 HSL.out ht32 hs).mono ?_
      rintro e w4 ⟨rfl, hb4⟩
      have HB4 := hide (HB.out.trans ((HB3.out.trans (hb4.mono HB3.out.size)).mono hzw))
      clear hb4
      rw [HPD.out]
      cases hv : dc (RingsOK (turn zs (only z ((k : Int) + 1)) rs))
      · have E := hide (show (k : Int) = room zs rs z from by rw [← HK.out, show 20 - k = (19 - k) + 1 by omega, roomTo_no (not_dc hv)])
        go_wp2_with fail
        go_ret
        exact ⟨ret_int (by rw [← E.out]; try go_num), HBF.out.trans (HB4.out.mono HBF.out.size)⟩
      · have E := hide (show roomTo zs rs z (k + 1) (20 - (k + 1)) = room zs rs z from by rw [← HK.out, show 20 - k = (20 - (k + 1)) + 1 by omega, roomTo_yes (of_dc hv)])
        go_wp2_with fail
        go_roundw
        case rel => exact ⟨k + 1, by go_num, by omega, E, HB4⟩
        case measure => simp [intOf]; omega
    · obtain rfl : k = 20 := by omega
      have E := hide (show (20 : Int) = room zs rs z from by rw [← HK.out]; rfl)
      go_wp2_with fail
      go_ret
      exact ⟨ret_int E.out, HBF.out.trans (HB.out.mono HBF.out.size)⟩
set_option maxRecDepth 100000 in
set_option maxHeartbeats 1000000 in
theorem specl09Most (bp : Nat) (nm : ByteArray) (A : Option Addr) (c : Nat) (rs : List RingR) (Az : Option Addr) (cz : Nat) (zs : List Int) (z : Nat) (w : World) (h : ProfAt w bp nm A c rs) (hz : SlAt encI 1 w Az zs) (HN : Hid (nameB nm.data.toList = true)) (hs : nm.size ≤ maxLen) (HR : Hid (RingsOK rs)) (HZO : Hid (ZonesOK zs rs.length)) (hzl : z < zs.length) :
    Calls Tryz.prog 173 #[.pointer (some ⟨bp, 0, none⟩), .slice Az zs.length cz, .int .i64 z] w fun e w' => e = .returned (.int .i64 (room zs rs z)) ∧ Below w.heap.size w w' := by
  have HP := hide h
  have HZ := hide hz
  have HF := hide (show room zs rs z = roomTo zs rs z 0 20 by unfold room; rfl)
  have hz8 := HZO.out.len8
  obtain ⟨i0, hi, hz0, hz1, hz2⟩ := info_parts info_i64
  have hmk := fun W => run_make_rowN (P := Tryz.prog) 24 2 i0 _ Tryz.underlying24 hi hz0 .i64 .i64 8 8 (Nat.le_refl _) (by rw [hz2]; omega) (by omega) W
  rw [hz1] at hmk
  have HO := hide (fun W : World => own_zeros (w := W) (B := W.heap.size) (n := 8) (Nat.le_refl _) (by simp [maxLen]))
  generalize madeCells (Value.int .i64 0).cells (8 * 1) = cs at hmk HO
  have hmk8 : ∀ W : World, (Instr.makeSlice 24 (.int .i64 8) (.int .i64 8)).run Tryz.prog W = .ok (.slice (some ⟨W.heap.size, 0, none⟩) 8 8) (W.alloc (.cells cs 2)) := hmk
  clear h hz hi hz0 hz1 hz2 hmk
  go_enter Tryz.func173, Tryz.ntmps173
  go_wp2_with fail
  go_loopw [7, 8, 9] (fun v _ _ wr => ∃ k : Nat, v = .int .i64 k ∧ k ≤ 20 ∧ Hid (roomTo zs rs z k (20 - k) = room zs rs z) ∧ Hid (Below w.heap.size w wr)) (fun v _ _ _ => 20 - (intOf v).toNat)
  case atStart => exact ⟨0, rfl, by omega, HF.out.symm, hide (Below.refl _ _)⟩
  case round =>
    obtain ⟨k, rfl, hk, HK, HB⟩ := hrel
    have hzw := HB.out.size
    by_cases hlt : k < 20
    · have HPr := hide (HP.out.below HB.out)
      have HZr := hide (HZ.out.below HB.out)
      have HOr := hide (HO.out wr)
      have hb1 : Below wr.heap.size wr (wr.alloc (.cells cs 2)) := (by repeat (first | with_reducible exact Below.refl _ _ | with_reducible assumption | (with_reducible refine Below.drew ?_) | (with_reducible refine below_drewN ?_ _) | ((with_reducible refine Below.alloc ?_ ?_ _); rotate_left; (focus (first | omega | (simp; omega) | simp))) | ((with_reducible refine Below.setCell ?_ ?_ _); rotate_left; (focus (first | omega | (simp; omega) | simp))) | (refine Below.trans ?_ (Below.mono (by assumption) (by first | omega | (simp; omega) | simp)))))
      obtain ⟨g, hg, hg1, hg2, g1, g2⟩ := own_get1 (k := z) HOr.out (by simp; omega)
      injection hg with hg; injection hg with hg
      subst hg
      have HO2 := hide (own_set1 (f := fun x : Int => .int .i64 x) (fun _ => rfl) HOr.out (k := z) ((k : Int) + 1))
      have hb2 : Below wr.heap.size wr ((wr.alloc (.cells cs 2)).setCell ⟨wr.heap.size, z, none⟩ (.int .i64 ((k : Int) + 1))) := hb1.setCell (Nat.le_refl _) _
      have HP2 := hide (HPr.out.below hb2)
      have HZ2 := hide (HZr.out.below hb2)
      have HB2 := hide hb2
      obtain ⟨W2, hW2⟩ : ∃ W2, W2 = wr.alloc (.cells (cs.setIfInBounds z (.int .i64 ((k : Int) + 1))) 2) := ⟨_, rfl⟩
      have eW : (wr.alloc (.cells cs 2)).setCell ⟨wr.heap.size, z, none⟩ (.int .i64 ((k : Int) + 1)) = W2 := by rw [hW2]; exact alloc_set _ _ _ _ _
      rw [eW] at HO2 HP2 HZ2 HB2
      have hcon := specl09Turned bp nm A c rs Az (some ⟨wr.heap.size, 0, none⟩) cz 8 zs ((List.replicate 8 0).set z ((k : Int) + 1)) W2 HP2.out HZ2.out (OwnI.sl HO2.out (by simp)) HR.out.len32 HR.out.len1 HZO.out.len1 (by simp; omega) (by simp) (hide (small_only _ _ _ (by omega) (by omega) (by omega))) (hide HR.out.inner)
      rw [turn_only zs rs 8 z _ (by omega), List.length_set, List.length_replicate] at hcon
      have HCON := hide hcon
      have hzi : (z : Int) < 8 := by omega
      have hzn : z < 8 := by omega
      clear hb1 hb2 HOr HPr HZr hcon eW
      go_upto_region 5 with fail
      rw [← hW2]
      clear hW2
      go_wp2_with fail
      refine HCON.out.mono ?_
      rintro e w3 ⟨A3, c3, rfl, ho3, hb3⟩
      have ht32 : (turn zs (only z ((k : Int) + 1)) rs).length ≤ 1048576 := by rw [turn_length]; have := HR.out.len32; omega
      have HPN := hide (ProfAt.new (nm := nm) (c := c3) (Own.at_ (enc := encRing) (fun _ => rfl) ho3))
      have HB3 := hide ((HB2.out.trans (hb3.mono HB2.out.size)).alloc (show wr.heap.size ≤ w3.heap.size from Nat.le_trans HB2.out.size hb3.size) (.cells #[.string nm, .slice A3 (turn zs (only z ((k : Int) + 1)) rs).length c3] 30))
      clear hb3 ho3 HCON HO2 HP2 HZ2 HB2
      have HPD := hide (prof_dc (rs := turn zs (only z ((k : Int) + 1)) rs) HN.out)
      go_wp2_with fail
      refine (specl05Ok w3.heap.size nm A3 c3 (turn zs (only z ((k : Int) + 1)) rs) _ HPN.out ht32 hs).mono ?_
      rintro e w4 ⟨rfl, hb4⟩
      have HB4 := hide (HB.out.trans ((HB3.out.trans (hb4.mono HB3.out.size)).mono hzw))
      clear hb4
      rw [HPD.out]
      cases hv : dc (RingsOK (turn zs (only z ((k : Int) + 1)) rs))
      · have E := hide (show (k : Int) = room zs rs z from by rw [← HK.out, show 20 - k = (19 - k) + 1 by omega, roomTo_no (not_dc hv)])
        go_wp2_with fail
        go_ret
        exact ⟨ret_int (by rw [← E.out]), HB4.out⟩
      · have E := hide (show roomTo zs rs z (k + 1) (20 - (k + 1)) = room zs rs z from by rw [← HK.out, show 20 - k = (20 - (k + 1)) + 1 by omega, roomTo_yes (of_dc hv)])
        go_wp2_with fail
        go_roundw
        case rel => exact ⟨k + 1, by go_num, by omega, E, HB4⟩
        case measure => simp [intOf]; omega
    · obtain rfl : k = 20 := by omega
      have E := hide (show (20 : Int) = room zs rs z from by rw [← HK.out]; rfl)
      go_wp2_with fail
      go_ret
      exact ⟨ret_int E.out, HB.out⟩
/-- The rooms of all zones. -/
@[irreducible] noncomputable def roomL (zs : List Int) (rs : List RingR) : List Int := (List.range zs.length).map fun z => room zs rs z
theorem roomL_length (zs : List Int) (rs : List RingR) : (roomL zs rs).length = zs.length := by unfold roomL; simp
theorem roomL_get (zs : List Int) (rs : List RingR) {z : Nat} (h : z < zs.length) : ig (roomL zs rs) z = room zs rs z := by unfold roomL; exact ig_map (fun z => room zs rs z) _ _ h
theorem limB_length (zs : List Int) (rs : List RingR) (most : Int) : (limB zs rs most).length = zs.length := by unfold limB; simp
theorem limB_get (zs : List Int) (rs : List RingR) (most : Int) {z : Nat} (h : z < zs.length) : ig (limB zs rs most) z = min (room zs rs z) most := by unfold limB; exact ig_map (fun z => min (room zs rs z) most) _ _ h
theorem roomTo_bd (zs : List Int) (rs : List RingR) (z : Nat) : ∀ (m n : Nat), (n : Int) ≤ roomTo zs rs z n m ∧ roomTo zs rs z n m ≤ (n : Int) + (m : Int)
  | 0, n => by simp [roomTo]
  | m + 1, n => by
    unfold roomTo
    split
    · have := roomTo_bd zs rs z m (n + 1); omega
    · omega
theorem room_bd (zs : List Int) (rs : List RingR) (z : Nat) : 0 ≤ room zs rs z ∧ room zs rs z ≤ 20 := by
  have := roomTo_bd zs rs z 20 0
  unfold room; omega
theorem take_ig {l : List Int} {k : Nat} (h : k < l.length) : l.take (k + 1) = l.take k ++ [ig l k] := by rw [List.take_succ_eq_append_getElem h, ig_eq h]
set_option maxRecDepth 100000 in
set_option maxHeartbeats 1000000 in
theorem implroomOf (nm : ByteArray) (A : Option Addr) (c : Nat) (rs : List RingR) (Az : Option Addr) (cz : Nat) (zs : List Int) (w : World) (h : SlAt encRing 3 w A rs) (hz : SlAt encI 1 w Az zs) (HN : Hid (nameB nm.data.toList = true)) (hs : nm.size ≤ maxLen) (HR : Hid (RingsOK rs)) (HZO : Hid (ZonesOK zs rs.length)) :
    Calls Tryz.prog 114 #[.agg #[.string nm, .slice A rs.length c], .slice Az zs.length cz] w (RowRes (roomL zs rs) w) := by
  have hb0 : Below w.heap.size w (w.alloc (.cells #[.string nm, .slice A rs.length c] 30)) := (by repeat (first | with_reducible exact Below.refl _ _ | with_reducible assumption | (with_reducible refine Below.drew ?_) | (with_reducible refine below_drewN ?_ _) | ((with_reducible refine Below.alloc ?_ ?_ _); rotate_left; (focus (first | omega | (simp; omega) | simp))) | ((with_reducible refine Below.setCell ?_ ?_ _); rotate_left; (focus (first | omega | (simp; omega) | simp))) | (refine Below.trans ?_ (Below.mono (by assumption) (by first | omega | (simp; omega) | simp)))))
  have HP := hide (ProfAt.new (nm := nm) (c := c) h)
  have HZ := hide (hz.below hb0)
  have HB0 := hide hb0
  have hz8 := HZO.out.len8
  clear h hz hb0
  go_enter Tryz.func114, Tryz.ntmps114
  go_wp2_with fail
  generalize w.alloc (.cells #[.string nm, .slice A rs.length c] 30) = w0 at *
  go_loopw [9, 5, 6] (fun v o _ wr => ∃ (k : Nat) (A : Option Addr) (c : Nat) (ys : List Int), v = .int .i64 k ∧ o = .slice A ys.length c ∧ k ≤ zs.length ∧ ys.length = k ∧ Hid (ys = (roomL zs rs).take k) ∧ Hid (OwnI wr w0.heap.size (.slice A ys.length c) ys) ∧ Hid (Below w0.heap.size w0 wr)) (fun v _ _ _ => zs.length - (intOf v).toNat)
  case atStart => exact ⟨0, none, 0, [], rfl, rfl, by omega, rfl, hide (by simp), hide Own.nil, hide (Below.refl _ _)⟩
  case round =>
    obtain ⟨k, A2, c2, ys, rfl, rfl, hk, hy, HY, HO, HB⟩ := hrel
    have hzw := HB.out.size
    have HLY := hide hy
    by_cases hlt : k < zs.length
    · have HPr := hide (HP.out.below HB.out)
      have p0 := HPr.out.c0
      have p1 := HPr.out.c1
      have pl := HPr.out.lt
      have HN2 := hide (show ys ++ [room zs rs k] = (roomL zs rs).take (k + 1) from by rw [HY.out, take_ig (by rw [roomL_length]; exact hlt), roomL_get zs rs hlt])
      have HC := hide (implmostSteps nm A c rs Az cz zs k wr HPr.out.sl (HZ.out.below HB.out) HN hs HR HZO hlt)
      clear hy HY
      generalize room zs rs k = d at *
      go_wp2_with fail
      refine HC.out.mono ?_
      rintro e w5 ⟨rfl, hb5⟩
      have HO5 := hide (HO.out.below hb5)
      have HB5 := hide (HB.out.trans (hb5.mono hzw))
      have hz5 := HB5.out.size
      clear HC hb5 HO HB p0 p1 pl
      go_wp2_with (at_builtin; refine wpList_appI rfl _ _ rfl w0.heap.size rfl HO5.out rfl (by have := HLY.out; omega) ?_ ?_; (focus (exact hz5)); intro A6 c6 w6 ho6 hb6 _hg6; have HO6 := hide ho6; have HB6 := hide (HB5.out.trans hb6); clear ho6 hb6)
      go_roundw
      case rel => exact ⟨k + 1, A6, c6, ys ++ [d], by go_num, by simp, by omega, by simp [HLY.out], HN2, hide (by simpa using HO6.out), HB6⟩
      case measure => simp [intOf]; omega
    · have he : ys = roomL zs rs := by rw [HY.out, List.take_of_length_le (by rw [roomL_length]; omega)]
      have HE := hide HB0.out.size
      clear hy HY HLY
      subst he
      go_wp2_with fail
      go_ret
      exact ⟨A2, c2, rfl, HO.out.mono HE.out, HB0.out.trans (HB.out.mono HE.out)⟩
/-- The rooms, of which the first k are cut to a greatest number. -/
noncomputable def mixL (zs : List Int) (rs : List RingR) (most : Int) (k : Nat) : List Int := (List.range zs.length).map fun z => if z < k then min (room zs rs z) most else room zs rs z
theorem mixL_length (zs : List Int) (rs : List RingR) (most : Int) (k : Nat) : (mixL zs rs most k).length = zs.length := by unfold mixL; simp
theorem mixL_zero (zs : List Int) (rs : List RingR) (most : Int) : mixL zs rs most 0 = roomL zs rs := by unfold mixL roomL; simp
theorem mixL_all (zs : List Int) (rs : List RingR) (most : Int) : mixL zs rs most zs.length = limB zs rs most := by
  unfold mixL limB
  refine List.map_congr_left fun z hz => ?_
  rw [if_pos (List.mem_range.1 hz)]
theorem mixL_get (zs : List Int) (rs : List RingR) (most : Int) {k : Nat} (h : k < zs.length) : ig (mixL zs rs most k) k = room zs rs k := by
  unfold mixL
  rw [ig_map (fun z => if z < k then min (room zs rs z) most else room zs rs z) _ _ h, if_neg (by omega)]
theorem mixL_set (zs : List Int) (rs : List RingR) (most : Int) {k : Nat} : (mixL zs rs most k).set k (min (room zs rs k) most) = mixL zs rs most (k + 1) := by
  refine List.ext_getElem (by simp [mixL]) fun i h1 h2 => ?_
  rw [List.getElem_set]
  by_cases e : k = i
  · subst e; rw [if_pos rfl]; simp [mixL]
  · rw [if_neg e]
    simp only [mixL, List.getElem_map, List.getElem_range]
    by_cases h3 : i < k
    · rw [if_pos h3, if_pos (by omega)]
    · rw [if_neg h3, if_neg (by omega)]
set_option maxRecDepth 100000 in
set_option maxHeartbeats 1000000 in
theorem impllimits (Az Aw Ab : Option Addr) (cz cw cb : Nat) (zs : List Int) (ws : List (List Int)) (bs : List Int) (nm : ByteArray) (A : Option Addr) (c : Nat) (rs : List RingR) (t0 t1 t2 t3 t4 tol most : Int) (w : World) (hm : MdAt w Az Aw Ab zs ws bs) (hr : SlAt encRing 3 w A rs) (hs : nm.size ≤ maxLen) (HA : Hid (AskOK zs ws bs nm rs)) :
    Calls Tryz.prog 58 #[.agg #[.slice Az zs.length cz, .slice Aw ws.length cw, .slice Ab bs.length cb], .agg #[.string nm, .slice A rs.length c], .agg #[.int .i64 t0, .int .i64 t1, .int .i64 t2, .int .i64 t3, .int .i64 t4, .int .i64 tol, .int .i64 most]] w (RowRes (limB zs rs most) w) := by
  have HX := hide (boxes3 (cz := cz) (cw := cw) (cb := cb) (nm := nm) (c := c) (t0 := t0) (t1 := t1) (t2 := t2) (t3 := t3) (t4 := t4) (tol := tol) (most := most) hm hr)
  have c0 := HX.out.1.m.c0
  have p0 := HX.out.1.p.c0
  have p1 := HX.out.1.p.c1
  have pl := HX.out.1.p.lt
  have hz8 := HA.out.z.len8
  have HNM := hide HA.out.n
  have HRO := hide HA.out.r
  have HZO := hide HA.out.z
  clear hm hr
  go_enter Tryz.func58, Tryz.ntmps58
  go_wp2_with fail
  generalize (((w.alloc (.cells #[.slice Az zs.length cz, .slice Aw ws.length cw, .slice Ab bs.length cb] 27)).alloc (.cells #[.string nm, .slice A rs.length c] 30)).alloc (.cells #[.int .i64 t0, .int .i64 t1, .int .i64 t2, .int .i64 t3, .int .i64 t4, .int .i64 tol, .int .i64 most] 34)) = w0 at *
  refine (implroomOf nm A c rs Az cz zs w0 HX.out.1.p.sl HX.out.1.m.md.z HNM hs HRO HZO).mono ?_
  rintro e w1 ⟨A1, c1, rfl, ho1, hb1⟩
  have HO1 := hide ho1
  have HB1 := hide hb1
  rw [roomL_length]
  rw [roomL_length] at HO1
  have HG := hide HX.out.2
  have HGW := hide HX.out.1.bel
  clear ho1 hb1 HX c0 p0 p1 pl
  go_wp2_with fail
  go_loopw [15, 8] (fun v _ wr => ∃ k : Nat, v = .int .i64 k ∧ k ≤ zs.length ∧ Hid (OwnI wr w0.heap.size (.slice A1 zs.length c1) (mixL zs rs most k)) ∧ Hid (Below w0.heap.size w0 wr)) (fun v _ _ => zs.length - (intOf v).toNat)
  case atStart => exact ⟨0, rfl, by omega, by rw [mixL_zero]; exact HO1, HB1⟩
  case round =>
    obtain ⟨k, rfl, hk, HO, HB⟩ := hrel
    by_cases hlt : k < zs.length
    · obtain ⟨g, hA, hg1, hg2, g1, g2⟩ := own_get1 (k := k) HO.out (by rw [mixL_length]; exact hlt)
      subst hA
      rw [mixL_get zs rs most hlt] at g1
      have hGr := (HG.out.below HB.out).c6
      have hGl := (HG.out.below HB.out).lt
      simp only [Nat.zero_add] at hGr
      have HN := hide (show ∀ v, v = min (room zs rs k) most → OwnI (wr.setCell ⟨g, k, none⟩ (.int .i64 v)) w0.heap.size (.slice (some ⟨g, 0, none⟩) zs.length c1) (mixL zs rs most (k + 1)) from fun v hv => by
        have := own_set1 (f := fun x : Int => .int .i64 x) (fun _ => rfl) HO.out (k := k) (min (room zs rs k) most)
        rw [mixL_set zs rs most] at this
        rw [hv]; exact this)
      have hrb := room_bd zs rs k
      have hki : (k : Int) < zs.length := by omega
      have hk0 : (0 : Int) ≤ k := by omega
      have HBS := hide (fun v : Value => HB.out.setCell (p := ⟨g, k, none⟩) hg1 v)
      generalize room zs rs k = x at *
      go_upto_region 5 with fail
      go_region
      all_goals
        go_wp2_with fail
        go_roundw
        case rel => exact ⟨k + 1, by go_num, by omega, hide (HN.out _ rfl).drew, hide (HBS.out _).drew⟩
        case measure => simp [intOf]; omega
    · have hml := mixL_all zs rs most
      obtain rfl : k = zs.length := by omega
      rw [hml] at HO
      have HE := hide HGW.out.size
      go_wp2_with fail
      go_ret
      exact ⟨A1, c1, by simp [limB_length], by rw [limB_length]; exact HO.out.mono HE.out, HGW.out.trans (HB.out.mono HE.out)⟩
end Go.Proofs.YtnefgafmnpblpaaGreat
