/- The text of a beam, program. Conditions: as in XTextBeam. -/
import Derived.Test.YtajodbhbmfjmjaaGreatDoorTextBeam
namespace Go.Proofs.YtajodbhbmfjmjaaGreatDoor
open Go.RowKit Go.Lib

theorem ld_step {w w0 w' : World} {b : Nat} {x0 x1 : Value} (h : Below w.heap.size w w0 ∧ w0.cell? ⟨b, 0, none⟩ = some x0 ∧ w0.cell? ⟨b, 1, none⟩ = some x1) (hb : Below w0.heap.size w0 w') : Below w.heap.size w w' ∧ w'.cell? ⟨b, 0, none⟩ = some x0 ∧ w'.cell? ⟨b, 1, none⟩ = some x1 := by
  have hl := World.block_lt_of_cell? w0 _ h.2.1
  exact ⟨h.1.trans (hb.mono h.1.size), (hb.cell (p := ⟨b, 0, none⟩) hl).trans h.2.1, (hb.cell (p := ⟨b, 1, none⟩) hl).trans h.2.2⟩
theorem ld_bel {w w0 : World} {b : Nat} {x0 x1 : Value} (h : Below w.heap.size w w0 ∧ w0.cell? ⟨b, 0, none⟩ = some x0 ∧ w0.cell? ⟨b, 1, none⟩ = some x1) : Below w.heap.size w w0 := h.1
theorem ld_grown {w w0 w' : World} {b : Nat} {x0 x1 : Value} {row : Option Nat} (h : Below w.heap.size w w0 ∧ w0.cell? ⟨b, 0, none⟩ = some x0 ∧ w0.cell? ⟨b, 1, none⟩ = some x1) (hk : Below w.heap.size w0 w') (hg : w0.grownBy w' row) (hne : some b ≠ row) : Below w.heap.size w w' ∧ w'.cell? ⟨b, 0, none⟩ = some x0 ∧ w'.cell? ⟨b, 1, none⟩ = some x1 := by
  have hl := World.block_lt_of_cell? w0 _ h.2.1
  exact ⟨h.1.trans hk, (hg.cell_far ⟨b, 0, none⟩ hl hne).trans h.2.1, (hg.cell_far ⟨b, 1, none⟩ hl hne).trans h.2.2⟩
set_option maxRecDepth 100000 in
set_option maxHeartbeats 2000000 in
theorem implBeamText (nm : ByteArray) (span wd dp wood : Int) (A : Option Addr) (c : Nat) (ls : List LoadR) (w : World) (h : SlAt encLoad 2 w A ls) (hE : EnvT w) (hn : ls.length ≤ 1048576) (hs : nm.size ≤ maxLen) :
    Calls Tryz.prog 11 #[.agg #[.string nm, .int .i64 span, .int .i64 wd, .int .i64 dp, .int .i64 wood, .slice A ls.length c]] w fun e w' => e = .returned (.string (txBeam nm span wd dp wood ls)) ∧ Below w.heap.size w w' := by
  have HX := hide (h.below ((Below.refl _ _).alloc (Nat.le_refl _) (.cells #[.string nm, .int .i64 span, .int .i64 wd, .int .i64 dp, .int .i64 wood, .slice A ls.length c] 26)))
  have HXw := hide h
  have HE := hide hE
  have HEO := hide (fun w' (h : Below w.heap.size w w') => hE.below h)
  clear h hE
  cases hv : vBeam nm span wd dp wood ls
  · have e : Hid (txBeam nm span wd dp wood ls = ByteArray.empty) := by unfold Hid txBeam; rw [if_neg (by rw [hv]; decide)]
    go_enter Tryz.func11, Tryz.ntmps11
    go_wp2_with fail
    refine (implValidBeam nm span wd dp wood A c ls _ HX.out hn hs).mono ?_
    rintro e1 w1 ⟨rfl, hb1⟩
    obtain ⟨fcb1, ffb1, fzb1⟩ := bfacts hb1 (by first | exact Nat.le_refl _ | omega | (simp; omega) | simp); have fsb1 := hb1.size; try simp at fcb1 ffb1 fzb1 fsb1 hb1
    go_wp2_with fail
    go_ret
    exact ⟨ret_st e.out.symm, (by repeat (first | with_reducible exact Below.refl _ _ | with_reducible assumption | (with_reducible refine Below.drew ?_) | (with_reducible refine below_drewN ?_ _) | ((with_reducible refine Below.alloc ?_ ?_ _); rotate_left; (focus (first | omega | (simp; omega) | simp))) | ((with_reducible refine Below.setCell ?_ ?_ _); rotate_left; (focus (first | omega | (simp; omega) | simp))) | (refine Below.trans ?_ (Below.mono (by assumption) (by first | omega | (simp; omega) | simp)))))⟩
  · have e : Hid (txBeam nm span wd dp wood ls = ⟨(bmW nm [span, wd, dp, wood] ls ls.length).toArray⟩) := by unfold Hid txBeam; rw [if_pos hv]
    have HQ := hide (vBeam_vals hv)
    have hl8 := (vBeam_vals hv).2.2.1
    go_enter Tryz.func11, Tryz.ntmps11
    go_wp2_with fail
    refine (implValidBeam nm span wd dp wood A c ls _ HX.out hn hs).mono ?_
    rintro e1 w1 ⟨rfl, hb1⟩
    have HX1 := hide (HX.out.below hb1)
    obtain ⟨fcb1, ffb1, fzb1⟩ := bfacts hb1 (by first | exact Nat.le_refl _ | omega | (simp; omega) | simp); have fsb1 := hb1.size; try simp at fcb1 ffb1 fzb1 fsb1 hb1
    have hz : w.heap.size < w1.heap.size := by (try simp at fsb1); omega
    have p0 : w1.cell? ⟨w.heap.size, 0, none⟩ = some (.string nm) := by rw [fcb1 _ _ (by simp)]; simp
    have p1 : w1.cell? ⟨w.heap.size, 1, none⟩ = some (.int .i64 span) := by rw [fcb1 _ _ (by simp)]; simp
    have p2 : w1.cell? ⟨w.heap.size, 2, none⟩ = some (.int .i64 wd) := by rw [fcb1 _ _ (by simp)]; simp
    have p3 : w1.cell? ⟨w.heap.size, 3, none⟩ = some (.int .i64 dp) := by rw [fcb1 _ _ (by simp)]; simp
    have p4 : w1.cell? ⟨w.heap.size, 4, none⟩ = some (.int .i64 wood) := by rw [fcb1 _ _ (by simp)]; simp
    have p5 : w1.cell? ⟨w.heap.size, 5, none⟩ = some (.slice A ls.length c) := by rw [fcb1 _ _ (by simp)]; simp
    have P0 : ∀ w', Below w1.heap.size w1 w' → w'.cell? ⟨w.heap.size, 0, none⟩ = some (.string nm) := fun w' h => (h.cell (p := ⟨w.heap.size, 0, none⟩) hz).trans p0
    have P1 : ∀ w', Below w1.heap.size w1 w' → w'.cell? ⟨w.heap.size, 1, none⟩ = some (.int .i64 span) := fun w' h => (h.cell (p := ⟨w.heap.size, 1, none⟩) hz).trans p1
    have P2 : ∀ w', Below w1.heap.size w1 w' → w'.cell? ⟨w.heap.size, 2, none⟩ = some (.int .i64 wd) := fun w' h => (h.cell (p := ⟨w.heap.size, 2, none⟩) hz).trans p2
    have P3 : ∀ w', Below w1.heap.size w1 w' → w'.cell? ⟨w.heap.size, 3, none⟩ = some (.int .i64 dp) := fun w' h => (h.cell (p := ⟨w.heap.size, 3, none⟩) hz).trans p3
    have P4 : ∀ w', Below w1.heap.size w1 w' → w'.cell? ⟨w.heap.size, 4, none⟩ = some (.int .i64 wood) := fun w' h => (h.cell (p := ⟨w.heap.size, 4, none⟩) hz).trans p4
    have HP5 := hide (show ∀ w', Below w1.heap.size w1 w' → w'.cell? ⟨w.heap.size, 5, none⟩ = some (.slice A ls.length c) from fun w' h => (h.cell (p := ⟨w.heap.size, 5, none⟩) hz).trans p5)
    have HB1 := hide (show Below w.heap.size w w1 from (by repeat (first | with_reducible exact Below.refl _ _ | with_reducible assumption | (with_reducible refine Below.drew ?_) | (with_reducible refine below_drewN ?_ _) | ((with_reducible refine Below.alloc ?_ ?_ _); rotate_left; (focus (first | omega | (simp; omega) | simp))) | ((with_reducible refine Below.setCell ?_ ?_ _); rotate_left; (focus (first | omega | (simp; omega) | simp))) | (refine Below.trans ?_ (Below.mono (by assumption) (by first | omega | (simp; omega) | simp))))))
    have HE1 := hide (fun w' (h : Below w1.heap.size w1 w') => HE.out.below (HB1.out.trans (h.mono HB1.out.size)))
    have HL := hide (list_row (xs := [span, wd, dp, wood]) (by simp) HQ.out.2.1)
    have HS := hide fun W : World => slat_litd W [span, wd, dp, wood]
    have HR := hide (show rowText [span, wd, dp, wood] = rowText [span, wd, dp, wood] from rfl)
    clear hb1 fcb1 ffb1 fzb1 fsb1 HE p0 p1 p2 p3 p4 p5 HX
    go_wp2_with fail
    go_region_held3 (fun w' => Below w1.heap.size w1 w')
      ((first | exact (Below.refl _ _).drew | exact Below.trans (by assumption) (hbK.mono (Below.size (by assumption : Below w1.heap.size w1 _))) | exact ((Below.refl _ _).alloc (Nat.le_refl _) _).drew | exact (Below.alloc (by assumption) (Below.size (by assumption)) _) | exact (by repeat (first | with_reducible exact Below.refl _ _ | with_reducible assumption | (with_reducible refine Below.drew ?_) | (with_reducible refine below_drewN ?_ _) | ((with_reducible refine Below.alloc ?_ ?_ _); rotate_left; (focus (first | omega | (simp; omega) | simp))) | ((with_reducible refine Below.setCell ?_ ?_ _); rotate_left; (focus (first | omega | (simp; omega) | simp))) | (refine Below.trans ?_ (Below.mono (by assumption) (by first | omega | (simp; omega) | simp)))))))
      (first | (go_at_call 29; go_loud (refine ((implListText_row _ 4 [span, wd, dp, wood] _ (HS.out _) (HE1.out _ (by repeat (first | with_reducible exact Below.refl _ _ | with_reducible assumption | (with_reducible refine Below.drew ?_) | (with_reducible refine below_drewN ?_ _) | ((with_reducible refine Below.alloc ?_ ?_ _); rotate_left; (focus (first | omega | (simp; omega) | simp))) | ((with_reducible refine Below.setCell ?_ ?_ _); rotate_left; (focus (first | omega | (simp; omega) | simp))) | (refine Below.trans ?_ (Below.mono (by assumption) (by first | omega | (simp; omega) | simp)))))) (by simp) (fun x hx => by have := HQ.out.2.1 x hx; omega) HL.out)).mono ?_; rintro e1 wK ⟨rfl, hbK⟩)))
    all_goals
      have hbE : Below w1.heap.size w1 (wK.alloc (.cells #[.string nm, .string ⟨(rowText [span, wd, dp, wood]).toArray⟩] 9)) := by first | assumption | (go_split_ands; assumption)
      have hzK : w.heap.size ≤ wK.heap.size := by have := hbE.size; simp at this; omega
      have HO0 := hide (own_lit (enc := encStr) (T := 9) (B := w.heap.size) wK [nm, ⟨(rowText [span, wd, dp, wood]).toArray⟩] #[.string nm, .string ⟨(rowText [span, wd, dp, wood]).toArray⟩] hzK (fun _ => rfl) rfl (by simp [maxLen]))
      have HBE := hide hbE
      have q5 := HP5.out _ hbE
      have hwz : w.heap.size < wK.heap.size + 1 := by omega
      clear hbE P0 P1 P2 P3 P4
      go_wp2_with fail
      go_loopw [25, 3, 5] (fun v o _ wr => ∃ (k : Nat) (A3 : Option Addr) (c3 : Nat) (ys : List ByteArray), v = .int .i64 k ∧ o = .slice A3 ys.length c3 ∧ k ≤ ls.length ∧ Hid (ys = nm :: ⟨(rowText [span, wd, dp, wood]).toArray⟩ :: (ls.take k).map fun x => (⟨(ldW x).toArray⟩ : ByteArray)) ∧ Hid (OwnS wr w.heap.size (.slice A3 ys.length c3) ys) ∧ Hid (Below w.heap.size w wr)) (fun v _ _ _ => ls.length - (intOf v).toNat)
      case atStart => exact ⟨0, _, _, _, rfl, rfl, by omega, rfl, HO0, hide (HB1.out.trans (HBE.out.mono HB1.out.size))⟩
      case round =>
        obtain ⟨k, A3, c3, ys, rfl, rfl, hk, hy, hO, hb⟩ := hrel
        have hyl : ys.length ≤ 10 := by rw [hy.out, List.length_cons, List.length_cons, List.length_map, List.length_take]; omega
        by_cases hlt : k < ls.length
        · obtain ⟨b, off, rfl, hbl, hc⟩ := HXw.out.below hb.out k hlt
          have hc0 := hc 0 _ rfl
          have hc1 := hc 1 _ rfl
          simp only [Nat.add_zero] at hc0
          clear hc
          have hi := HQ.out.2.2.2 ls[k] (List.getElem_mem hlt)
          have hz3 := hb.out.size
          have hy2 : Hid (ys ++ [(⟨(ldW ls[k]).toArray⟩ : ByteArray)] = nm :: ⟨(rowText [span, wd, dp, wood]).toArray⟩ :: (ls.take (k + 1)).map fun x => (⟨(ldW x).toArray⟩ : ByteArray)) := by
            unfold Hid
            rw [hy.out, List.take_succ_eq_append_getElem hlt, List.map_append]
            rfl
          generalize ls[k] = x at *
          obtain ⟨x0, x1⟩ := x
          simp only at hc0 hc1 hi
          obtain ⟨⟨i00, i01⟩, i10, i11⟩ := hi
          have s0 := itoa_length_le i00 i01
          have s1 := itoa_length_le i10 i11
          have u1 : ¬ 9223372036854775807 < (itoa x1).length + 1 := by omega
          have u2 : ¬ 9223372036854775807 < (itoa x1).length + 1 + (itoa x0).length := by omega
          have hy3 : Hid (ys ++ [(⟨(itoa x1).toArray⟩ : ByteArray) ++ ⟨#[64]⟩ ++ ⟨(itoa x0).toArray⟩] = nm :: ⟨(rowText [span, wd, dp, wood]).toArray⟩ :: (ls.take (k + 1)).map fun x => (⟨(ldW x).toArray⟩ : ByteArray)) := by
            unfold Hid
            rw [str_ld]
            exact hy2.out
          have HNE := hide (show some wr.heap.size ≠ (Value.slice A3 ys.length c3).ownBlock from fun q => by have := (Own.lt hO.out _ q.symm).2; omega)
          have hS0 : Below w.heap.size w (wr.alloc (.cells #[.int .i64 x0, .int .i64 x1] 31)).drew ∧ (wr.alloc (.cells #[.int .i64 x0, .int .i64 x1] 31)).drew.cell? ⟨wr.heap.size, 0, none⟩ = some (.int .i64 x0) ∧ (wr.alloc (.cells #[.int .i64 x0, .int .i64 x1] 31)).drew.cell? ⟨wr.heap.size, 1, none⟩ = some (.int .i64 x1) :=
            ⟨(hb.out.alloc hz3 _).drew, by simp, by simp⟩
          have HS0 := hide hS0
          have HOK := hide (show OwnS (wr.alloc (.cells #[.int .i64 x0, .int .i64 x1] 31)).drew w.heap.size (.slice A3 ys.length c3) ys from hO.out.below (((Below.refl _ _).alloc (Nat.le_refl _) _).drew))
          have HEw := hide (show ∀ w', Below w.heap.size w w' → EnvT w' from fun w' h => HEO.out _ h)
          clear hS0 hy2
          go_wp2_with fail
          go_region_held3 (fun w' => Below w.heap.size w w' ∧ w'.cell? ⟨wr.heap.size, 0, none⟩ = some (.int .i64 x0) ∧ w'.cell? ⟨wr.heap.size, 1, none⟩ = some (.int .i64 x1))
            ((first | exact HS0.out | exact ld_step (by assumption) hbK | exact ld_step (by assumption) ((Below.refl _ _).alloc (Nat.le_refl _) _) | exact hS4))
            (first
              | (go_at_call 30; go_loud (refine (implDecimal _ _ (HEw.out _ (ld_bel (b := wr.heap.size) (x0 := .int .i64 x0) (x1 := .int .i64 x1) (by assumption))) (by assumption) (by assumption)).mono ?_; rintro e2 wK ⟨rfl, hbK⟩; have hzK2 := Nat.le_trans (ld_bel (b := wr.heap.size) (x0 := .int .i64 x0) (x1 := .int .i64 x1) (by assumption)).size hbK.size; replace HOK := hide (HOK.out.below hbK)))
              | (go_loud (refine step_appStr rfl _ _ (by rfl) w.heap.size (by rfl) HOK.out (by rfl) (by omega) hzK2 ?_; intro A4 c4 w4 ho4 hk4 hg4; have hS4 := ld_grown (b := wr.heap.size) (x0 := .int .i64 x0) (x1 := .int .i64 x1) (by assumption) hk4 hg4 HNE.out)))
          all_goals
            have HN4 := hide ho4
            have HS4 := hide hS4.1
            have HB4 := hide hk4
            clear ho4 hS4 hk4 hg4
            go_wp2_with fail
            go_roundw
            case rel => exact ⟨k + 1, A4, c4, _, by go_num, by simp, by omega, hy3, by first | exact HN4 | simpa using HN4, HS4⟩
            case measure => simp [intOf]; omega
        · obtain rfl : k = ls.length := by omega
          have hj : ys.map (·.data.toList) = nm.data.toList :: rowText [span, wd, dp, wood] :: (ls.take ls.length).map ldW := by
            rw [hy.out, List.map_cons, List.map_cons, List.map_map]
            rfl
          have HR2 := hide (show Lib.join (ys.map (·.data.toList)) [32] = bmW nm [span, wd, dp, wood] ls ls.length from by rw [hj]; rfl)
          have HLn := hide (bmW_len (nm := nm) (l4 := [span, wd, dp, wood]) (ls := ls) rfl HQ.out.1 (fun x hx => by have := HQ.out.2.1 x hx; omega) HQ.out.2.2.2 ls.length (Nat.le_refl _))
          clear hy hj
          go_wp2_with fail
          refine (joinOwn ⟨#[32]⟩ hO.out (by omega) ?_).mono ?_
          · rw [show (⟨#[32]⟩ : ByteArray).data.toList = [32] from rfl, HR2.out]
            have := HLn.out
            omega
          rintro e w3 ⟨rfl, hb3⟩
          have HB3 := hide (hb.out.trans (hb3.mono hb.out.size))
          clear hb3
          go_wp2_with fail
          go_ret
          exact ⟨by rw [e.out, ← HR2.out]; rfl, HB3.out⟩
end Go.Proofs.YtajodbhbmfjmjaaGreatDoor
