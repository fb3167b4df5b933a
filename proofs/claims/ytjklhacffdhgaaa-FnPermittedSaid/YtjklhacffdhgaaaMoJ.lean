/- The program's greatest number of swings. -/
import Derived.Test.YtjklhacffdhgaaaMoI
import Derived.Test.YtjklhacffdhgaaaTotal
import Derived.Test.YtjklhacffdhgaaaRows2
namespace Go.Proofs.Ytjklhacffdhgaaa
open Go.RowKit

/-- A slice of numbers and a code as a result. -/
def SlResM (P : List Int → Int → Prop) (w : World) (e : Ending) (w' : World) : Prop :=
  ∃ (A : Option Addr) (c : Nat) (xs : List Int) (code : Int), e = .returned (.tuple #[.slice A xs.length c, .int .i64 code]) ∧ P xs code ∧ xs.length ≤ 1048576 ∧ OwnI w' w.heap.size (.slice A xs.length c) xs ∧ Below w.heap.size w w'
theorem slResM_nil {P : List Int → Int → Prop} {w w' : World} {code : Int} (h : P [] code) (hb : Below w.heap.size w w') : SlResM P w (.returned (.tuple #[.slice none 0 0, .int .i64 code])) w' :=
  ⟨none, 0, [], code, rfl, h, by simp, Own.nil, hb⟩
/-- The greatest number of swings that are permitted together, and a code. -/
@[irreducible] noncomputable def mostR (nm : ByteArray) (sw dp sf lim : Int) (xs : List SwingR) : List Int × Int := if vTower nm sw dp sf lim && rowsB vSwingR SwingR.nm 16 xs then (Mo.most (amps sw dp sf xs) lim, 0) else ([], 1)
section
variable {nm : ByteArray} {sw dp sf lim : Int} {xs : List SwingR}
theorem mostR_1 (h : vTower nm sw dp sf lim = false) : mostR nm sw dp sf lim xs = ([], 1) := by unfold mostR; simp [h]
theorem mostR_2 (h : rowsB vSwingR SwingR.nm 16 xs = false) : mostR nm sw dp sf lim xs = ([], 1) := by unfold mostR; simp [h]
theorem mostR_3 (h : vTower nm sw dp sf lim = true) (h2 : rowsB vSwingR SwingR.nm 16 xs = true) : mostR nm sw dp sf lim xs = (Mo.most (amps sw dp sf xs) lim, 0) := by unfold mostR; simp [h, h2]
end
abbrev castL (l : List Nat) : List Int := l.map fun k : Nat => (k : Int)
theorem takeG_bd {al : List Int} {lim : Int} (l : List Nat) (s : Int) : (Mo.takeG al lim l s).length ≤ l.length := (Mo.takeG_sub l s).length_le
/-- The greedy choice, step by step. -/
theorem takeG_at {al : List Int} {lim s : Int} {o : List Nat} {j : Nat} (h : j < o.length) : Mo.takeG al lim (o.drop j) s = if lim < s + al.getD o[j] 0 then [] else o[j] :: Mo.takeG al lim (o.drop (j + 1)) (s + al.getD o[j] 0) := by
  rw [List.drop_eq_getElem_cons h]
  rfl
theorem takeG_end {al : List Int} {lim s : Int} {o : List Nat} {j : Nat} (h : o.length ≤ j) : Mo.takeG al lim (o.drop j) s = [] := by
  rw [List.drop_of_length_le h]
  rfl
set_option maxRecDepth 100000 in
set_option maxHeartbeats 2000000 in
theorem implMostBells (nm : ByteArray) (sw dp sf lim : Int) (A : Option Addr) (c : Nat) (xs : List SwingR) (w : World) (hs : nm.size ≤ maxLen) (h : SlAt encSwing 3 w A xs) (hn : xs.length ≤ 1048576) (hx : ∀ x ∈ xs, x.nm.size ≤ maxLen) :
    Calls Try.prog 43 #[.agg #[.string nm, .int .i64 sw, .int .i64 dp, .int .i64 sf, .int .i64 lim], .slice A xs.length c] w (SlResM (fun ys code => mostR nm sw dp sf lim xs = (ys, code)) w) := by
  have HX := hide (h.below ((Below.refl _ _).alloc (Nat.le_refl _) (.cells #[.string nm, .int .i64 sw, .int .i64 dp, .int .i64 sf, .int .i64 lim] 56)))
  have HS := hide hx
  clear h hx
  cases hv : vTower nm sw dp sf lim
  · have e : Hid (mostR nm sw dp sf lim xs = ([], 1)) := mostR_1 hv
    go_enter Try.func43, Try.ntmps43
    go_wp2_with fail
    refine (implValidTower nm sw dp sf lim _ hs).mono ?_
    rintro e w1 ⟨rfl, hb1⟩
    obtain ⟨fcb1, ffb1, fzb1⟩ := bfacts hb1 (by first | exact Nat.le_refl _ | omega | (simp; omega) | simp); have fsb1 := hb1.size; try simp at fcb1 ffb1 fzb1 fsb1 hb1
    go_wp2_with fail
    go_ret2
    exact slResM_nil e.out (by repeat (first | with_reducible exact Below.refl _ _ | with_reducible assumption | (with_reducible refine Below.drew ?_) | (with_reducible refine below_drewN ?_ _) | ((with_reducible refine Below.alloc ?_ ?_ _); rotate_left; (focus (first | omega | (simp; omega) | simp))) | ((with_reducible refine Below.setCell ?_ ?_ _); rotate_left; (focus (first | omega | (simp; omega) | simp))) | (refine Below.trans ?_ (Below.mono (by assumption) (by first | omega | (simp; omega) | simp)))))
  · cases hr : rowsB vSwingR SwingR.nm 16 xs
    · have e : Hid (mostR nm sw dp sf lim xs = ([], 1)) := mostR_2 hr
      go_enter Try.func43, Try.ntmps43
      go_wp2_with fail
      refine (implValidTower nm sw dp sf lim _ hs).mono ?_
      rintro e w1 ⟨rfl, hb1⟩
      obtain ⟨fcb1, ffb1, fzb1⟩ := bfacts hb1 (by first | exact Nat.le_refl _ | omega | (simp; omega) | simp); have fsb1 := hb1.size; try simp at fcb1 ffb1 fzb1 fsb1 hb1
      have HX1 := hide (HX.out.below (by simpa using hb1))
      go_wp2_with fail
      refine (implValidSwings A c xs _ HX1.out hn HS.out).mono ?_
      rintro e w2 ⟨rfl, hb2⟩
      have hbn := Below.trans (by first | exact hb1 | exact below_drewN hb1 _) (Below.mono hb2 (by first | omega | (simp; omega) | simp))
      clear hb2 fcb1 ffb1 fzb1 fsb1
      clear hb1
      have hb2 := hbn
      clear hbn
      obtain ⟨fcb2, ffb2, fzb2⟩ := bfacts hb2 (by first | exact Nat.le_refl _ | omega | (simp; omega) | simp); have fsb2 := hb2.size; try simp at fcb2 ffb2 fzb2 fsb2 hb2
      go_wp2_with fail
      go_ret2
      exact slResM_nil e.out (by repeat (first | with_reducible exact Below.refl _ _ | with_reducible assumption | (with_reducible refine Below.drew ?_) | (with_reducible refine below_drewN ?_ _) | ((with_reducible refine Below.alloc ?_ ?_ _); rotate_left; (focus (first | omega | (simp; omega) | simp))) | ((with_reducible refine Below.setCell ?_ ?_ _); rotate_left; (focus (first | omega | (simp; omega) | simp))) | (refine Below.trans ?_ (Below.mono (by assumption) (by first | omega | (simp; omega) | simp)))))
    · have e := hide (mostR_3 hv hr)
      obtain ⟨-, ⟨a1, a2⟩, ⟨a3, a4⟩, ⟨a5, a6⟩, a7, a8⟩ := vTower_true _ _ _ _ _ hv
      obtain ⟨r1, r2, -⟩ := rowsB_true hr
      have HR1 := hide r1
      clear r1
      go_enter Try.func43, Try.ntmps43
      go_wp2_with fail
      refine (implValidTower nm sw dp sf lim _ hs).mono ?_
      rintro e w1 ⟨rfl, hb1⟩
      obtain ⟨fcb1, ffb1, fzb1⟩ := bfacts hb1 (by first | exact Nat.le_refl _ | omega | (simp; omega) | simp); have fsb1 := hb1.size; try simp at fcb1 ffb1 fzb1 fsb1 hb1
      have HX1 := hide (HX.out.below (by simpa using hb1))
      go_wp2_with fail
      refine (implValidSwings A c xs _ HX1.out hn HS.out).mono ?_
      rintro e w2 ⟨rfl, hb2⟩
      have hbn := Below.trans (by first | exact hb1 | exact below_drewN hb1 _) (Below.mono hb2 (by first | omega | (simp; omega) | simp))
      clear hb2 fcb1 ffb1 fzb1 fsb1
      clear hb1
      have hb2 := hbn
      clear hbn
      obtain ⟨fcb2, ffb2, fzb2⟩ := bfacts hb2 (by first | exact Nat.le_refl _ | omega | (simp; omega) | simp); have fsb2 := hb2.size; try simp at fcb2 ffb2 fzb2 fsb2 hb2
      have HX2 := hide (HX.out.below (by simpa using hb2))
      have HB2 := hide (show Below (w.heap.size + 1) (w.alloc (.cells #[.string nm, .int .i64 sw, .int .i64 dp, .int .i64 sf, .int .i64 lim] 56)) w2 by simpa using hb2)
      go_wp2_with fail
      refine (implamplitudes nm sw dp sf lim A c xs _ HX2.out HR1.out r2 a1 a2 a3 a4 a5 a6).mono ?_
      rintro e3 w3 ⟨A3, c3, rfl, ho3, hb3⟩
      have hal := amps_len sw dp sf xs
      have q4 := HB2.out.cell (p := ⟨w.heap.size, 4, none⟩) (by simp)
      have hwz := HB2.out.size
      simp at q4 hwz
      have q4' := (hb3.cell (p := ⟨w.heap.size, 4, none⟩) (by show w.heap.size < w2.heap.size; omega)).trans q4
      have BW := hide (show Below w.heap.size w w3 from (((Below.refl _ _).alloc (Nat.le_refl _) _).trans (HB2.out.mono (by omega))).trans (hb3.mono (by omega)))
      have HO3 := hide ho3
      have HQ4 := hide q4'
      have hz3 : w2.heap.size ≤ w3.heap.size := hb3.size
      have HAV := hide (amps_val (sf := sf) a1 a2 a3 a4 a5 HR1.out)
      clear hb2 hb3 ho3 q4 q4' hv hr HX HX1 HX2 HB2 fcb2 ffb2 fzb2
      rw [hal] at HO3 ⊢
      generalize amps sw dp sf xs = al at *
      go_wp2_with fail
      have HO4 := hide (HO3.out.below ((Below.refl _ _).alloc (Nat.le_refl _) (.cells #[.slice A3 xs.length c3] 34)))
      have BW4 := hide (BW.out.alloc (by omega) (.cells #[.slice A3 xs.length c3] 34))
      have HBX := hide (show (w3.alloc (.cells #[.slice A3 xs.length c3] 34)).cell? ⟨w3.heap.size, 0, none⟩ = some (.slice A3 xs.length c3) by simp)
      have HQ := hide (((Below.refl w3.heap.size w3).alloc (Nat.le_refl _) (.cells #[.slice A3 xs.length c3] 34)).cell (p := ⟨w.heap.size, 4, none⟩) (by show w.heap.size < w3.heap.size; omega) |>.trans HQ4.out)
      have HA3 := hide (fun a o (q : A3 = some ⟨a, o, none⟩) => show a < w3.heap.size from (HO3.out.lt a (by subst q; rfl)).2)
      have hz4 : w3.heap.size < (w3.alloc (.cells #[.slice A3 xs.length c3] 34)).heap.size := by simp
      have hwb : w.heap.size < w3.heap.size := by omega
      clear HO3 HQ4 BW
      generalize w3.alloc (.cells #[.slice A3 xs.length c3] 34) = w4 at *
      generalize w3.heap.size = bx at *
      go_loopw [26, 8, 7] (fun v _ t wr => ∃ (k : Nat) (A' : Option Addr) (c' : Nat) (ys : List Int), v = .int .i64 k ∧ t = .slice A' ys.length c' ∧ k ≤ xs.length ∧ Hid (ys = castL (List.range k)) ∧ ys.length ≤ k ∧ Hid (OwnI wr w4.heap.size (.slice A' ys.length c') ys) ∧ Hid (Below w4.heap.size w4 wr)) (fun v _ _ _ => xs.length - (intOf v).toNat)
      case atStart => exact ⟨0, none, 0, [], rfl, rfl, by omega, rfl, by simp, hide Own.nil, hide (Below.refl _ _)⟩
      case round =>
        obtain ⟨k, A', c', ys, rfl, rfl, hk, hy, hyl, HO, HB⟩ := hrel
        by_cases hlt : k < xs.length
        · have ho1 := HO.out
          have hz := HB.out.size
          have hyn : Hid (ys ++ [(k : Int)] = castL (List.range (k + 1))) := by rw [hy.out]; unfold castL; rw [List.range_succ, List.map_append]; rfl
          go_wp2_with (at_builtin; refine wpList_appI rfl _ _ rfl w4.heap.size rfl ho1 rfl (by omega) ?_ ?_; (focus omega); intro A1 c1 w5 ho2 hb2 _hg2)
          go_roundw
          case rel => exact ⟨k + 1, A1, c1, ys ++ [(k : Int)], by go_num, by simp, by omega, hyn, by simp; omega, by simpa using hide ho2, hide (HB.out.trans hb2)⟩
          case measure => simp [intOf]; omega
        · obtain rfl : k = xs.length := by omega
          have hyl2 : ys.length = xs.length := by rw [hy.out]; simp
          rw [hyl2] at HO ⊢
          have hyy := hy.out
          subst hyy
          have hw4 := HB.out.size
          have HST : Hid (Calls Try.prog 108 #[.slice A' xs.length c', .func (.func 109) #[] #[.pointer (some ⟨bx, 0, none⟩)]] wr fun e w' => e = .returned (.tuple #[]) ∧ OwnI w' w4.heap.size (.slice A' xs.length c') (castL (Mo.ordA (Mo.ltA al) xs.length)) ∧ Below w4.heap.size wr w') := by
            by_cases h0 : xs.length = 0
            · have HO2 := HO.out
              rw [h0] at HO2 ⊢
              refine (sortStable_nil A' c' _ wr).mono ?_
              rintro e w' ⟨rfl, rfl⟩
              exact ⟨rfl, HO2, Below.refl _ _⟩
            · obtain ⟨g, rfl, hg1, hg2⟩ := own_addr (show wr.ownsRow w4.heap.size 2 1 (.slice A' xs.length c') xs.length _ by have := HO.out; unfold OwnI Own at this; rwa [hyl2] at this) (by omega)
              have hq := sortStable w4.heap.size g bx A3 c' c3 al wr (by rw [hal]; exact HO.out) (by omega) (by omega) ((Own.at_ (enc := encI) (sz := 1) (fun _ => rfl) (by rw [hal]; exact HO4.out)).below HB.out) (fun a o q => by have := HA3.out a o q; omega) (by rw [hal]; exact (HB.out.cell (p := ⟨bx, 0, none⟩) hz4).trans HBX.out) (by omega)
              rw [hal] at hq
              refine hq.mono ?_
              rintro e w' ⟨rfl, ho, hg⟩
              exact ⟨rfl, ho, Below.grown (Below.refl _ _) hg HB.out.size (fun k q => by injection q with q; omega)⟩
          clear hyl2 hyl
          go_wp2_with (go_at_call 108; refine HST.out.mono ?_; rintro e2 w5 ⟨rfl, ho5, hb5⟩)
          have hz5 := hb5.size
          have B45 := hide (HB.out.trans hb5)
          have HO5 := hide ho5
          have BW5 := hide (BW4.out.trans (B45.out.mono (by omega)))
          have hol : (castL (Mo.ordA (Mo.ltA al) xs.length)).length = xs.length := by simp [Mo.ordA_len]
          have hon : (Mo.ordA (Mo.ltA al) xs.length).length = xs.length := Mo.ordA_len
          have HOLT := hide (fun k (hk : k ∈ Mo.ordA (Mo.ltA al) xs.length) => Mo.ordA_lt hk)
          have HFT := hide (show Mo.most al lim = Mo.rise (castL (Mo.takeG al lim (Mo.ordA (Mo.ltA al) xs.length) 0)) from by unfold Mo.most; rw [hal])
          have HND := hide (show (castL (Mo.takeG al lim (Mo.ordA (Mo.ltA al) xs.length) 0)).Nodup from Mo.nodup_cast ((Mo.takeG_sub _ _).nodup Mo.ordA_nodup))
          have HTL := hide (show (castL (Mo.takeG al lim (Mo.ordA (Mo.ltA al) xs.length) 0)).length ≤ xs.length from by unfold castL; rw [List.length_map]; have := takeG_bd (al := al) (lim := lim) (Mo.ordA (Mo.ltA al) xs.length) 0; omega)
          generalize Mo.ordA (Mo.ltA al) xs.length = od at *
          clear ho5 hb5 HST HO HB
          have HE : Hid (∀ (W : World) (A9 : Option Addr) (c9 : Nat) (tk : List Int), tk = castL (Mo.takeG al lim od 0) → OwnI W w5.heap.size (.slice A9 tk.length c9) tk → Below w5.heap.size w5 W → Calls Try.prog 111 #[.slice A9 tk.length c9] W fun e w' => e = .returned (.tuple #[]) ∧ SlResM (fun ys code => mostR nm sw dp sf lim xs = (ys, code)) w (.returned (.tuple #[.slice A9 tk.length c9, .int .i64 0])) w') := fun W A9 c9 tk htk ho hb => by
            have hnd := HND.out
            have hl := HTL.out
            have hft := HFT.out
            rw [← htk] at hnd hl hft
            refine (slicesSort w5.heap.size A9 c9 tk W ho (by omega) hnd).mono ?_
            rintro e2 w' ⟨rfl, ho2, hg⟩
            have hlen : (Mo.rise tk).length = tk.length := (Mo.rise_perm hnd).length_eq
            refine ⟨rfl, A9, c9, Mo.rise tk, 0, by rw [hlen], by rw [e.out, hft], by omega, ?_, ?_⟩
            · rw [hlen]
              exact Own.mono ho2 (by have := BW5.out.size; omega)
            · exact BW5.out.trans ((Below.grown hb hg hb.size (fun k q => (ho.lt k q).1)).mono BW5.out.size)
          go_loopw [39, 12, 10, 9] (fun v _ sm t wr2 => ∃ (j : Nat) (A9 : Option Addr) (c9 : Nat) (tk : List Int) (s : Int), v = .int .i64 j ∧ sm = .int .i64 s ∧ t = .slice A9 tk.length c9 ∧ j ≤ xs.length ∧ tk.length ≤ j ∧ 0 ≤ s ∧ s ≤ lim ∧ Hid (OwnI wr2 w5.heap.size (.slice A9 tk.length c9) tk) ∧ Hid (Below w5.heap.size w5 wr2) ∧ Hid (tk ++ castL (Mo.takeG al lim (od.drop j) s) = castL (Mo.takeG al lim od 0))) (fun v _ _ _ _ => xs.length - (intOf v).toNat)
          case atStart => exact ⟨0, none, 0, [], 0, rfl, rfl, rfl, by omega, by simp, by omega, by omega, hide Own.nil, hide (Below.refl _ _), hide (by rw [List.drop_zero, List.nil_append])⟩
          case round =>
            obtain ⟨j, A9, c9, tk, s, rfl, rfl, rfl, hj, htl, s0, s1, HO, HB, HG⟩ := hrel
            by_cases hlt : j < xs.length
            · obtain ⟨bo, oo, hA', hbo, hco⟩ := (Own.at_ (enc := encI) (sz := 1) (fun _ => rfl) (show OwnI w5 w4.heap.size (.slice A' (castL od).length c') (castL od) by rw [hol]; exact HO5.out)).below HB.out j (by omega)
              subst hA'
              have ho := hco 0 _ rfl
              simp only [Nat.add_zero, Nat.mul_one] at ho
              have hoj : (castL od)[j]'(by omega) = ((od[j]'(by omega) : Nat) : Int) := by simp [castL]
              rw [hoj] at ho
              have hog := takeG_at (al := al) (lim := lim) (s := s) (o := od) (j := j) (by omega)
              have hjl : od[j]'(by omega) < xs.length := HOLT.out _ (List.getElem_mem _)
              have HOG := hide hog
              clear hco hoj hog
              generalize od[j]'(by omega) = x at *
              have HB4 := hide (B45.out.trans (HB.out.mono (by omega)))
              obtain ⟨ba, oa, hA3, hba, hca⟩ := (Own.at_ (enc := encI) (sz := 1) (fun _ => rfl) (show OwnI w4 _ (.slice A3 al.length c3) al by rw [hal]; exact HO4.out)).below HB4.out x (by omega)
              subst hA3
              have ha := hca 0 _ rfl
              simp only [Nat.add_zero, Nat.mul_one] at ha
              have hav := HAV.out (al[x]'(by omega)) (List.getElem_mem _)
              have hgd : al.getD x 0 = al[x]'(by omega) := by rw [List.getD_eq_getElem?_getD, List.getElem?_eq_getElem (by omega)]; rfl
              rw [hgd] at HOG
              clear hca hgd
              generalize al[x]'(by omega) = a at *
              have q4 := (HB4.out.cell (p := ⟨w.heap.size, 4, none⟩) (by show w.heap.size < w4.heap.size; omega)).trans HQ.out
              have qx := (HB4.out.cell (p := ⟨bx, 0, none⟩) hz4).trans HBX.out
              have hzr := HB4.out.size
              have hzw : w.heap.size < wr.heap.size := by omega
              have hzb : bx < wr.heap.size := by omega
              have kA : IntKind.i64.wrap (s + a) = s + a := IntWalk.i64_in _ (by omega)
              have hxn : (x : Int) < (xs.length : Int) := by omega
              by_cases hq : lim < s + a
              · have dq : decide (lim < s + a) = true := by simp; omega
                have hfin : tk = castL (Mo.takeG al lim od 0) := by rw [← HG.out, HOG.out, if_pos hq]; simp
                have HFIN := hide hfin
                clear hfin hq
                go_wp2_with fail
                refine wp_region_kept (by kernel_rfl) (by kernel_rfl) ?_
                intro gc gf gz
                repeat (go_big_quiet_step (fail))
                refine wpQuiet_nil ?_
                intro w6 hw'
                obtain ⟨⟨_, hb6⟩, rfl⟩ := hw'
                clear gc gf gz
                try dsimp only
                have fs6 := hb6.size
                try simp at fs6 hb6
                have HO6 := hide (HO.out.below hb6)
                have HB6 := hide (HB.out.trans (hb6.mono HB.out.size))
                clear hb6 q4 qx ha ho
                go_wp2_with (go_at_call 111; refine (HE.out _ _ _ _ HFIN.out HO6.out HB6.out).mono ?_; rintro e2 w7 ⟨rfl, hres⟩)
                go_ret2
                exact hres
              · have dq : decide (lim < s + a) = false := by simp; omega
                have HG2 : Hid ((tk ++ [(x : Int)]) ++ castL (Mo.takeG al lim (od.drop (j + 1)) (s + a)) = castL (Mo.takeG al lim od 0)) := hide (by
                  rw [← HG.out, HOG.out, if_neg hq]
                  simp)
                have HSL := hide (show s + a ≤ lim by omega)
                clear hq
                go_wp2_with fail
                refine wp_region_kept (by kernel_rfl) (by kernel_rfl) ?_
                intro gc gf gz
                repeat (go_big_quiet_step (fail))
                refine wpQuiet_nil ?_
                intro w6 hw'
                obtain ⟨⟨_, hb6⟩, rfl⟩ := hw'
                clear gc gf gz
                try dsimp only
                have fs6 := hb6.size
                try simp at fs6 hb6
                have HO6 := hide (HO.out.below hb6)
                have HB6 := hide (HB.out.trans (hb6.mono HB.out.size))
                have ho6 := HO6.out
                have hz6 := HB6.out.size
                have qx6 := (hb6.cell (p := ⟨bx, 0, none⟩) hzb).trans qx
                have ha6 := (hb6.cell (p := ⟨ba, oa + x, none⟩) hba).trans ha
                clear hb6 q4 qx ha ho dq
                go_wp2_with (at_builtin; refine wpList_appI rfl _ _ rfl w5.heap.size rfl ho6 rfl (by omega) ?_ ?_; (focus omega); intro A1 c1 w7 ho7 hb7 _hg7)
                go_roundw
                case rel => exact ⟨j + 1, A1, c1, tk ++ [(x : Int)], s + a, by go_num, by go_num, by simp, by omega, by simp; omega, by omega, HSL.out, by simpa using hide ho7, hide (HB6.out.trans hb7), HG2⟩
                case measure => simp [intOf]; omega
            · obtain rfl : j = xs.length := by omega
              have hfin : tk = castL (Mo.takeG al lim od 0) := by rw [← HG.out, takeG_end (by omega)]; simp
              have HFIN := hide hfin
              clear hfin
              go_wp2_with (go_at_call 111; refine (HE.out _ _ _ _ HFIN.out HO.out HB.out).mono ?_; rintro e2 w7 ⟨rfl, hres⟩)
              go_ret2
              exact hres
end Go.Proofs.Ytjklhacffdhgaaa
