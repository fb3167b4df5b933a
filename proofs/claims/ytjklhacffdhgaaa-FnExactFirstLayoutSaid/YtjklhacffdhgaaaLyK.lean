/- The program's first layout: what it answers. -/
import Derived.Test.YtjklhacffdhgaaaLyJ
namespace Go.Proofs.Ytjklhacffdhgaaa
open Go.RowKit

theorem search_any (w0 : World) (b : Nat) (A : Option Addr) (c : Nat) (a1 a2 a3 g sp z : Int) (rs : List Int) (HX : Hid (SlAt encI 1 w0 A rs)) (HR : Hid (∀ r ∈ rs, inB r 1 5000 = true)) (h24 : rs.length ≤ 24) (HC : Hid (vCh a1 a2 a3 = true)) (HG : Hid (inB g 0 5000 = true)) (HSP : Hid (inB sp 1 20000 = true)) (HZ : Hid (inB z 0 20000 = true)) (f : Nat) : SearchOK w0 b A c a1 a2 a3 g sp z rs f := by
  induction f with
  | zero => intro l s w pv pc h1 h2; omega
  | succ f ih =>
    intro l s w pv pc h1 h2 HS HL hg
    obtain ⟨left, spent, got, list⟩ := s
    simp only at hg
    subst hg
    cases spent
    · by_cases h0 : left = 0
      · exact search_short w0 b A c a1 a2 a3 g sp z rs f left false list l w pv pc HS h24 (.inr ⟨rfl, .inl h0⟩)
      · by_cases hl : l.length = rs.length
        · exact search_short w0 b A c a1 a2 a3 g sp z rs f left false list l w pv pc HS h24 (.inr ⟨rfl, .inr hl⟩)
        · exact search_goes w0 b A c a1 a2 a3 g sp z rs HX HR h24 HC HG HSP HZ f ih left list l w pv pc HS HL h0 (by omega) h1
    · exact search_short w0 b A c a1 a2 a3 g sp z rs f left true list l w pv pc HS h24 (.inl rfl)
/-- What the search for a layout finds. -/
def lastL (a1 a2 a3 : Int) (rs : List Int) (g sp z bud : Int) : Ly.S PlaceR := lyVisit a1 a2 a3 g sp z rs (rs.length + 1) [] ⟨bud, false, false, []⟩
/-- The first layout, and a code. -/
@[irreducible] def layR (a1 a2 a3 : Int) (rs : List Int) (g sp z bud : Int) : List PlaceR × Int :=
  if vCh a1 a2 a3 = false ∨ 24 < rs.length then ([], 1)
  else if ∃ r ∈ rs, inB r 1 5000 = false then ([], 1)
  else if (inB g 0 5000 && inB sp 1 20000 && inB z 0 20000 && inB bud 1 20000) = false then ([], 2)
  else if 20000 < a1 / sp * (a2 / sp) then ([], 5)
  else if (lastL a1 a2 a3 rs g sp z bud).spent then ([], 5)
  else if (lastL a1 a2 a3 rs g sp z bud).got then ((lastL a1 a2 a3 rs g sp z bud).list, 0) else ([], 3)
section
variable {a1 a2 a3 : Int} {rs : List Int} {g sp z bud : Int}
theorem lay_1 (h : vCh a1 a2 a3 = false ∨ 24 < rs.length) : layR a1 a2 a3 rs g sp z bud = ([], 1) := by unfold layR; rw [if_pos h]
theorem lay_2 (h1 : vCh a1 a2 a3 = true) (h2 : rs.length ≤ 24) (k : Nat) (hk : k < rs.length) (h3 : inB rs[k] 1 5000 = false) : layR a1 a2 a3 rs g sp z bud = ([], 1) := by
  unfold layR; rw [if_neg (by rw [h1]; simp; omega), if_pos ⟨rs[k], List.getElem_mem hk, h3⟩]
theorem lay_3 (h1 : vCh a1 a2 a3 = true) (h2 : rs.length ≤ 24) (h3 : ∀ r ∈ rs, inB r 1 5000 = true) (h4 : (inB g 0 5000 && inB sp 1 20000 && inB z 0 20000 && inB bud 1 20000) = false) : layR a1 a2 a3 rs g sp z bud = ([], 2) := by
  unfold layR; rw [if_neg (by rw [h1]; simp; omega), if_neg (by rintro ⟨r, hr, e⟩; rw [h3 r hr] at e; cases e), if_pos h4]
theorem lay_4 (h1 : vCh a1 a2 a3 = true) (h2 : rs.length ≤ 24) (h3 : ∀ r ∈ rs, inB r 1 5000 = true) (h4 : inB g 0 5000 = true) (h5 : inB sp 1 20000 = true) (h6 : inB z 0 20000 = true) (h7 : inB bud 1 20000 = true) :
    layR a1 a2 a3 rs g sp z bud = if 20000 < a1 / sp * (a2 / sp) then ([], 5) else if (lastL a1 a2 a3 rs g sp z bud).spent then ([], 5) else if (lastL a1 a2 a3 rs g sp z bud).got then ((lastL a1 a2 a3 rs g sp z bud).list, 0) else ([], 3) := by
  unfold layR; rw [if_neg (by rw [h1]; simp; omega), if_neg (by rintro ⟨r, hr, e⟩; rw [h3 r hr] at e; cases e), if_neg (by rw [h4, h5, h6, h7]; decide)]
end
/-- What is found has room for itself and the reaches that were asked for. -/
theorem lastL_fine {a1 a2 a3 : Int} {rs : List Int} {g sp z bud : Int} (h : (lastL a1 a2 a3 rs g sp z bud).got = true) :
    Ly.Laid (freeB a1 a2 a3 g) (lyP sp z rs) (lyN a1 sp) (lyN a2 sp) (lastL a1 a2 a3 rs g sp z bud).list ∧ (lastL a1 a2 a3 rs g sp z bud).list.length = rs.length :=
  Ly.visit_fine (rs.length + 1) (l := []) (s := ⟨bud, false, false, []⟩) (fun k hk => by simp at hk) (fun h => by cases h) h
theorem quo_bd {a b : Int} (h0 : 0 ≤ a) (h1 : a ≤ 20000) (hb : 1 ≤ b) : 0 ≤ a / b ∧ a / b ≤ 20000 := ⟨Int.ediv_nonneg h0 (by omega), Int.le_trans (Int.ediv_le_self _ h0) h1⟩
set_option maxRecDepth 100000 in
set_option maxHeartbeats 2000000 in
theorem implFirstLayout (a1 a2 a3 : Int) (A : Option Addr) (c : Nat) (rs : List Int) (g sp z bud : Int) (w : World) (h : SlAt encI 1 w A rs) (hn : rs.length ≤ 1048576) :
    Calls Try.prog 58 #[.agg #[.int .i64 a1, .int .i64 a2, .int .i64 a3], .slice A rs.length c, .int .i64 g, .int .i64 sp, .int .i64 z, .int .i64 bud] w (SlRes encPlace 5 95 (fun ys code => layR a1 a2 a3 rs g sp z bud = (ys, code)) w) := by
  have HX := hide (h.below ((Below.refl _ _).alloc (Nat.le_refl _) (.cells #[.int .i64 a1, .int .i64 a2, .int .i64 a3] 86)))
  clear h
  cases hv : vCh a1 a2 a3
  · have e : Hid (layR a1 a2 a3 rs g sp z bud = ([], 1)) := lay_1 (.inl hv)
    go_enter Try.func58, Try.ntmps58
    go_wp2_with fail
    refine (implValidChamber a1 a2 a3 _).mono ?_
    rintro e w1 ⟨rfl, hb1⟩
    obtain ⟨fcb1, ffb1, fzb1⟩ := bfacts hb1 (by first | exact Nat.le_refl _ | omega | (simp; omega) | simp); have fsb1 := hb1.size; try simp at fcb1 ffb1 fzb1 fsb1 hb1
    go_wp2_with fail
    go_ret2
    exact slRes_nil e.out (by repeat (first | with_reducible exact Below.refl _ _ | with_reducible assumption | (with_reducible refine Below.drew ?_) | (with_reducible refine below_drewN ?_ _) | ((with_reducible refine Below.alloc ?_ ?_ _); rotate_left; (focus (first | omega | (simp; omega) | simp))) | ((with_reducible refine Below.setCell ?_ ?_ _); rotate_left; (focus (first | omega | (simp; omega) | simp))) | (refine Below.trans ?_ (Below.mono (by assumption) (by first | omega | (simp; omega) | simp)))))
  · by_cases h24 : 24 < rs.length
    · have e : Hid (layR a1 a2 a3 rs g sp z bud = ([], 1)) := lay_1 (.inr h24)
      go_enter Try.func58, Try.ntmps58
      go_wp2_with fail
      refine (implValidChamber a1 a2 a3 _).mono ?_
      rintro e w1 ⟨rfl, hb1⟩
      obtain ⟨fcb1, ffb1, fzb1⟩ := bfacts hb1 (by first | exact Nat.le_refl _ | omega | (simp; omega) | simp); have fsb1 := hb1.size; try simp at fcb1 ffb1 fzb1 fsb1 hb1
      go_wp2_with fail
      go_ret2
      exact slRes_nil e.out (by repeat (first | with_reducible exact Below.refl _ _ | with_reducible assumption | (with_reducible refine Below.drew ?_) | (with_reducible refine below_drewN ?_ _) | ((with_reducible refine Below.alloc ?_ ?_ _); rotate_left; (focus (first | omega | (simp; omega) | simp))) | ((with_reducible refine Below.setCell ?_ ?_ _); rotate_left; (focus (first | omega | (simp; omega) | simp))) | (refine Below.trans ?_ (Below.mono (by assumption) (by first | omega | (simp; omega) | simp)))))
    · have h24' : rs.length ≤ 24 := by omega
      have hd24 : decide ((24 : Int) < (rs.length : Int)) = false := by simp; omega
      clear h24
      obtain ⟨⟨b1, b2⟩, ⟨b3, b4⟩, ⟨b5, b6⟩⟩ := vCh_true _ _ _ hv
      go_enter Try.func58, Try.ntmps58
      go_wp2_with fail
      refine (implValidChamber a1 a2 a3 _).mono ?_
      rintro e w1 ⟨rfl, hb1⟩
      obtain ⟨fcb1, ffb1, fzb1⟩ := bfacts hb1 (by first | exact Nat.le_refl _ | omega | (simp; omega) | simp); have fsb1 := hb1.size; try simp at fcb1 ffb1 fzb1 fsb1 hb1
      have HV := hide hv
      have HB1 := hide (show Below (w.heap.size + 1) (w.alloc (.cells #[.int .i64 a1, .int .i64 a2, .int .i64 a3] 86)) w1 by simpa using hb1)
      have HX1 := hide (HX.out.below (by simpa using HB1.out))
      clear hv hb1 fcb1 ffb1 fzb1 fsb1 HX
      go_wp2_with fail
      go_loop [28] (fun v => ∃ k : Nat, v = .int .i64 k ∧ k ≤ rs.length ∧ Hid (∀ j (hj : j < rs.length), j < k → inB rs[j] 1 5000 = true)) (fun v => rs.length - (intOf v).toNat)
      case atStart => exact ⟨0, rfl, by omega, hide (fun j _ h => by omega)⟩
      case round =>
        obtain ⟨k, rfl, hk, HJ⟩ := hrel
        by_cases hlt : k < rs.length
        · obtain ⟨bq, oq, rfl, hbq, hc⟩ := HX1.out k hlt
          have hc0 := hc 0 _ rfl
          simp only [Nat.add_zero, Nat.mul_one] at hc0
          clear hc
          have hbad := fun h3 => lay_2 (g := g) (sp := sp) (z := z) (bud := bud) HV.out h24' k hlt h3
          have hstep : inB rs[k] 1 5000 = true → ∀ j (hj : j < rs.length), j < k + 1 → inB rs[j] 1 5000 = true := fun h j hj hjk => by
            by_cases ej : j = k
            · subst ej; exact h
            · exact HJ.out j hj (by omega)
          have HBAD := hide hbad
          have HSTEP := hide hstep
          clear hbad hstep
          generalize rs[k] = r at *
          cases hr : inB r 1 5000
          · have e := hide (HBAD.out hr)
            go_wp2_with (go_at_call 127; refine (implisReach_any _ _).mono ?_; rintro e2 w2 ⟨rfl, rfl⟩)
            go_ret2
            exact slRes_nil e.out (((Below.refl _ _).alloc (Nat.le_refl _) _).trans (HB1.out.mono (by omega)))
          · have HS2 := hide (HSTEP.out hr)
            go_wp2_with (go_at_call 127; refine (implisReach_any _ _).mono ?_; rintro e2 w2 ⟨rfl, rfl⟩)
            go_round
            case rel => exact ⟨k + 1, by go_num, by omega, HS2⟩
            case measure => simp [intOf]; omega
        · obtain rfl : k = rs.length := by omega
          have HALL := hide (show ∀ r ∈ rs, inB r 1 5000 = true from fun r hr => by
            obtain ⟨j, hj, rfl⟩ := List.getElem_of_mem hr
            exact HJ.out j hj hj)
          clear HJ
          have BB := hide (((Below.refl w.heap.size w).alloc (Nat.le_refl _) (.cells #[.int .i64 a1, .int .i64 a2, .int .i64 a3] 86)).trans (HB1.out.mono (by omega)))
          cases hok : (inB g 0 5000 && inB sp 1 20000 && inB z 0 20000 && inB bud 1 20000)
          · have e := hide (lay_3 (bud := bud) HV.out h24' HALL.out hok)
            have HOK := hide hok
            clear hok
            cases h1 : inB g 0 5000
            · go_wp2_with (first | (go_at_call 128; refine (implisSpace_any _ _).mono ?_; rintro e2 w2 ⟨rfl, rfl⟩) | (go_at_call 122; refine (implwithin_any _ _ _ _).mono ?_; rintro e2 w2 ⟨rfl, rfl⟩) | (go_at_call 102; refine (implisBudget_any _ _).mono ?_; rintro e2 w2 ⟨rfl, rfl⟩))
              go_ret2
              exact slRes_nil e.out BB.out
            · cases h2 : inB sp 1 20000
              · go_wp2_with (first | (go_at_call 128; refine (implisSpace_any _ _).mono ?_; rintro e2 w2 ⟨rfl, rfl⟩) | (go_at_call 122; refine (implwithin_any _ _ _ _).mono ?_; rintro e2 w2 ⟨rfl, rfl⟩) | (go_at_call 102; refine (implisBudget_any _ _).mono ?_; rintro e2 w2 ⟨rfl, rfl⟩))
                go_ret2
                exact slRes_nil e.out BB.out
              · cases h3 : inB z 0 20000
                · go_wp2_with (first | (go_at_call 128; refine (implisSpace_any _ _).mono ?_; rintro e2 w2 ⟨rfl, rfl⟩) | (go_at_call 122; refine (implwithin_any _ _ _ _).mono ?_; rintro e2 w2 ⟨rfl, rfl⟩) | (go_at_call 102; refine (implisBudget_any _ _).mono ?_; rintro e2 w2 ⟨rfl, rfl⟩))
                  go_ret2
                  exact slRes_nil e.out BB.out
                · cases h4 : inB bud 1 20000
                  · go_wp2_with (first | (go_at_call 128; refine (implisSpace_any _ _).mono ?_; rintro e2 w2 ⟨rfl, rfl⟩) | (go_at_call 122; refine (implwithin_any _ _ _ _).mono ?_; rintro e2 w2 ⟨rfl, rfl⟩) | (go_at_call 102; refine (implisBudget_any _ _).mono ?_; rintro e2 w2 ⟨rfl, rfl⟩))
                    go_ret2
                    exact slRes_nil e.out BB.out
                  · have := HOK.out
                    rw [h1, h2, h3, h4] at this
                    cases this
          · simp only [Bool.and_eq_true] at hok
            obtain ⟨⟨⟨h1, h2⟩, h3⟩, h4⟩ := hok
            have e := hide (lay_4 HV.out h24' HALL.out h1 h2 h3 h4)
            obtain ⟨p1, p2⟩ := inB_true h2
            obtain ⟨p3, p4⟩ := inB_true h4
            have HG := hide h1
            have HSP := hide h2
            have HZ := hide h3
            go_wp2_with (first | (go_at_call 128; refine (implisSpace_any _ _).mono ?_; rintro e2 w2 ⟨rfl, rfl⟩) | (go_at_call 122; refine (implwithin_any _ _ _ _).mono ?_; rintro e2 w2 ⟨rfl, rfl⟩) | (go_at_call 102; refine (implisBudget_any _ _).mono ?_; rintro e2 w2 ⟨rfl, rfl⟩))
            have q0 := HB1.out.cell (p := ⟨w.heap.size, 0, none⟩) (by simp)
            have q1 := HB1.out.cell (p := ⟨w.heap.size, 1, none⟩) (by simp)
            have q2 := HB1.out.cell (p := ⟨w.heap.size, 2, none⟩) (by simp)
            have hz1 := HB1.out.size
            simp at q0 q1 q2 hz1
            clear h1 h2 h3 h4
            obtain ⟨d0, d1⟩ := quo_bd (a := a1) (b := sp) (by omega) b2 p1
            obtain ⟨d2, d3⟩ := quo_bd (a := a2) (b := sp) (by omega) b4 p1
            have d4 := prod_bd (M := 20000) (N := 20000) d0 d1 d2 d3
            obtain ⟨d5, d6⟩ := d4
            have k0 : IntKind.i64.wrap (a1 / sp) = a1 / sp := IntWalk.i64_in _ (by omega)
            have k1 : IntKind.i64.wrap (a2 / sp) = a2 / sp := IntWalk.i64_in _ (by omega)
            have k2 : IntKind.i64.wrap (a1 / sp * (a2 / sp)) = a1 / sp * (a2 / sp) := IntWalk.i64_in _ (by omega)
            have k3 : sp ≠ 0 := by omega
            have hwz : w.heap.size < w1.heap.size := by omega
            refine wp_region_kept (by kernel_rfl) (by kernel_rfl) ?_
            intro gc gf gz
            repeat (go_big_quiet_step (fail))
            refine wpQuiet_nil ?_
            intro w2 hw'
            obtain ⟨⟨_, hb2⟩, rfl⟩ := hw'
            clear gc gf gz
            try dsimp only
            have fs2 := hb2.size
            try simp at fs2 hb2
            have BB2 := hide (BB.out.trans (hb2.mono (by omega)))
            have HX2 := hide (HX1.out.below hb2)
            have r0 := (hb2.cell (p := ⟨w.heap.size, 0, none⟩) hwz).trans q0
            have r1 := (hb2.cell (p := ⟨w.heap.size, 1, none⟩) hwz).trans q1
            have r2 := (hb2.cell (p := ⟨w.heap.size, 2, none⟩) hwz).trans q2
            clear hb2 q0 q1 q2 k0 k1 k2 BB HX1 HB1
            by_cases hm : 20000 < a1 / sp * (a2 / sp)
            · have e2 := hide (show layR a1 a2 a3 rs g sp z bud = ([], 5) from by rw [e.out, if_pos hm])
              go_wp2_with fail
              go_ret2
              exact slRes_nil e2.out BB2.out
            · have e2 := hide (show layR a1 a2 a3 rs g sp z bud = if (lastL a1 a2 a3 rs g sp z bud).spent then ([], 5) else if (lastL a1 a2 a3 rs g sp z bud).got then ((lastL a1 a2 a3 rs g sp z bud).list, 0) else ([], 3) from by rw [e.out, if_neg hm])
              have hmd : decide (20000 < a1 / sp * (a2 / sp)) = false := by simpa using hm
              have hI : LyI w2 w2.heap.size A rs.length c a1 a2 a3 g sp z (w2.alloc (.cells (lyCells bud false a1 a2 a3 A rs.length c g sp z none 0 0) 189)) none 0 [] ⟨bud, false, false, []⟩ :=
                ⟨heap_alloc_new _ _, Own.nil, ⟨by simp only; omega, by simp only; omega⟩, (Below.refl _ _).alloc (Nat.le_refl _) _, Nat.le_refl _⟩
              have hs := search_any w2 w2.heap.size A c a1 a2 a3 g sp z rs HX2 HALL h24' HV HG HSP HZ (rs.length + 1) [] ⟨bud, false, false, []⟩ _ none 0 (by simp) (by simp) (hide hI) (hide (fun q hq => by simp at hq)) rfl
              have HS := hide hs
              clear hI hs e
              go_wp2_with fail
              refine HS.out.mono ?_
              rintro e3 w3 ⟨s', pv, pc, rfl, hs', hI, hF⟩
              have HS' := hide (show lastL a1 a2 a3 rs g sp z bud = s' from hs')
              have HI := hide hI
              have hst := hI.st
              have g1 : w3.cell? ⟨w2.heap.size, 1, none⟩ = some (.bool s'.spent) := by simp [World.cell?, hst]
              have g9 : w3.cell? ⟨w2.heap.size, 9, none⟩ = some (.slice pv (Ly.now [] s').length pc) := by simp [World.cell?, hst]
              have BB3 := hide (BB2.out.trans (hI.bel.mono BB2.out.size))
              clear hs' hI hF hst HS r0 r1 r2
              cases hsp : s'.spent
              · rw [hsp] at g1
                cases hgt : s'.got
                · have e4 := hide (show layR a1 a2 a3 rs g sp z bud = ([], 3) from by rw [e2.out, HS'.out, hsp, hgt]; rfl)
                  clear hsp hgt
                  go_wp2_with fail
                  go_ret2
                  exact slRes_nil e4.out BB3.out
                · have e4 := hide (show layR a1 a2 a3 rs g sp z bud = (s'.list, 0) from by rw [e2.out, HS'.out, hsp, hgt]; rfl)
                  have hnow : Ly.now [] s' = s'.list := by unfold Ly.now; rw [hgt]; rfl
                  rw [hnow] at g9 HI
                  have HLN := hide (lastL_fine (by rw [HS'.out]; exact hgt)).2
                  rw [HS'.out] at HLN
                  have hzz := BB2.out.size
                  clear hsp hgt hnow
                  go_wp2_with fail
                  go_ret2
                  exact ⟨pv, pc, s'.list, 0, rfl, e4.out, by have := HLN.out; omega, HI.out.oc.mono (by omega), BB3.out⟩
              · rw [hsp] at g1
                have e4 := hide (show layR a1 a2 a3 rs g sp z bud = ([], 5) from by rw [e2.out, HS'.out, hsp]; rfl)
                clear hsp
                go_wp2_with fail
                go_ret2
                exact slRes_nil e4.out BB3.out
end Go.Proofs.Ytjklhacffdhgaaa
