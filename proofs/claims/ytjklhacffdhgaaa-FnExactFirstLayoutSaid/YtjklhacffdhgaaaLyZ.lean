/- The reference's first layout: what it answers. -/
import Derived.Test.YtjklhacffdhgaaaLyY
import Derived.Laws.AppendOwnNone
namespace Go.Proofs.Ytjklhacffdhgaaa
open Go.RowKit

set_option maxRecDepth 100000 in
/-- An append of all places of a row of the call's own, nil let in. -/
theorem wpList_appPs {w : World} {ops : Array Oper} {rest : List Oper} {o : Oper} {a : Act} {Q : Exit → Act → World → Prop} (hgd : o.guard = none) (s x : Operand)
    (ho : o.op = .call { callee := .builtin .append, args := #[s, x], argTypes := #[83, 83] }) (B B2 : Nat) {v : Value} {xs ys : List PlaceR} (hs : a.eval s = v) (hown : Own encPlace 5 95 w B v xs) {A2 : Option Addr} {c2 : Nat}
    (hx : a.eval x = .slice A2 ys.length c2) (hy : Own encPlace 5 95 w B2 (.slice A2 ys.length c2) ys) (hn : xs.length + ys.length ≤ 1048577) (hB : B ≤ w.heap.size)
    (h : ∀ (A : Option Addr) (c : Nat) (w' : World), Own encPlace 5 95 w' B (.slice A (xs.length + ys.length) c) (xs ++ ys) → Below B w w' → w.grownBy w' v.ownBlock → wpList Try.prog ops Q rest (a.put o.dst (.slice A (xs.length + ys.length) c)) w') : wpList Try.prog ops Q (o :: rest) a w := by
  obtain ⟨i0, hi, hz0, hz1, hz2⟩ := info_parts infoA_Place
  rcases hy.2 with ⟨e1, e2⟩ | ⟨g, cap, cur, e1, _⟩
  · injection e1 with e3 e4 e5
    subst e3; subst e5
    have hl : ys = [] := List.eq_nil_of_length_eq_zero e4
    subst hl
    obtain ⟨A, c, rfl⟩ := hown.slice
    refine wpList_append_own_none hgd s x 83 ho B 95 i0 5 Try.underlying83 hi _ xs.length (xs.flatMap encPlace) hs hown hx ?_
    have := h A c w (by rw [List.append_nil]; exact hown) (Below.refl _ _) (World.grownBy.refl _ _)
    simpa using this
  · injection e1 with e3 e4 e5
    subst e3
    exact wpList_appAll (sz := 5) (bytes := 48) Try.underlying83 hi hz0 hz1 hz2 rfl (by omega) (by omega) (fun _ => rfl) one_Place hgd s x ho B hs hown hx (hy.at_ (fun _ => rfl)) hn hB h
theorem visitLy_any (w0 : World) (b bc : Nat) (A : Option Addr) (c : Nat) (a1 a2 a3 g sp z bud : Int) (rs : List Int) (HX : Hid (SlAt encI 1 w0 A rs)) (HR : Hid (∀ r ∈ rs, inB r 1 5000 = true)) (h24 : rs.length ≤ 24) (HC : Hid (vCh a1 a2 a3 = true)) (HG : Hid (inB g 0 5000 = true)) (HSP : Hid (inB sp 1 20000 = true)) (HZ : Hid (inB z 0 20000 = true))
    (HCH : Hid (w0.heap[bc]? = some (.cells #[.int .i64 a1, .int .i64 a2, .int .i64 a3] 86 (0, 0)))) (f : Nat) : VisitLy w0 b bc A c a1 a2 a3 g sp z bud rs f := by
  induction f with
  | zero => intro l s w pv pc h1 h2; omega
  | succ f ih =>
    intro l s w pv pc h1 h2 HS HL he
    obtain ⟨left, spent, got, list⟩ := s
    obtain ⟨e1, e2⟩ := ended_of he
    simp only at e1 e2
    subst e1; subst e2
    by_cases h0 : left = 0
    · exact visit_short w0 b bc A c a1 a2 a3 g sp z bud rs f left list l w pv pc HS h24 (.inl h0)
    · by_cases hl : l.length = rs.length
      · exact visit_short w0 b bc A c a1 a2 a3 g sp z bud rs f left list l w pv pc HS h24 (.inr hl)
      · exact visit_goes w0 b bc A c a1 a2 a3 g sp z bud rs HX HR h24 HC HG HSP HZ HCH f ih left list l w pv pc HS HL h0 (by omega) h1
set_option maxRecDepth 100000 in
set_option maxHeartbeats 2000000 in
theorem specFirstLayout (a1 a2 a3 : Int) (A : Option Addr) (c : Nat) (rs : List Int) (g sp z bud : Int) (w : World) (h : SlAt encI 1 w A rs) (hn : rs.length ≤ 1048576) :
    Calls Try.prog 55 #[.agg #[.int .i64 a1, .int .i64 a2, .int .i64 a3], .slice A rs.length c, .int .i64 g, .int .i64 sp, .int .i64 z, .int .i64 bud] w (SlRes encPlace 5 95 (fun ys code => layR a1 a2 a3 rs g sp z bud = (ys, code)) w) := by
  have HX := hide (h.below ((Below.refl _ _).alloc (Nat.le_refl _) (.cells #[.int .i64 a1, .int .i64 a2, .int .i64 a3] 86)))
  clear h
  cases hv : vCh a1 a2 a3
  · have e : Hid (layR a1 a2 a3 rs g sp z bud = ([], 1)) := lay_1 (.inl hv)
    go_enter Try.func55, Try.ntmps55
    go_wp2_with fail
    refine (specl23Chamber _ 0 a1 a2 a3 _ (by simp) (by simp) (by simp)).mono ?_; rintro e w1 ⟨rfl, rfl⟩
    go_wp2_with fail
    go_ret2
    exact slRes_nil e.out (by repeat (first | with_reducible exact Below.refl _ _ | with_reducible assumption | (with_reducible refine Below.drew ?_) | (with_reducible refine below_drewN ?_ _) | ((with_reducible refine Below.alloc ?_ ?_ _); rotate_left; (focus (first | omega | (simp; omega) | simp))) | ((with_reducible refine Below.setCell ?_ ?_ _); rotate_left; (focus (first | omega | (simp; omega) | simp))) | (refine Below.trans ?_ (Below.mono (by assumption) (by first | omega | (simp; omega) | simp)))))
  · by_cases h24 : 24 < rs.length
    · have e : Hid (layR a1 a2 a3 rs g sp z bud = ([], 1)) := lay_1 (.inr h24)
      go_enter Try.func55, Try.ntmps55
      go_wp2_with fail
      refine (specl23Chamber _ 0 a1 a2 a3 _ (by simp) (by simp) (by simp)).mono ?_; rintro e w1 ⟨rfl, rfl⟩
      go_wp2_with fail
      go_ret2
      exact slRes_nil e.out (by repeat (first | with_reducible exact Below.refl _ _ | with_reducible assumption | (with_reducible refine Below.drew ?_) | (with_reducible refine below_drewN ?_ _) | ((with_reducible refine Below.alloc ?_ ?_ _); rotate_left; (focus (first | omega | (simp; omega) | simp))) | ((with_reducible refine Below.setCell ?_ ?_ _); rotate_left; (focus (first | omega | (simp; omega) | simp))) | (refine Below.trans ?_ (Below.mono (by assumption) (by first | omega | (simp; omega) | simp)))))
    · have h24' : rs.length ≤ 24 := by omega
      have hd24 : decide ((24 : Int) < (rs.length : Int)) = false := by simp; omega
      clear h24
      obtain ⟨⟨b1, b2⟩, ⟨b3, b4⟩, ⟨b5, b6⟩⟩ := vCh_true _ _ _ hv
      go_enter Try.func55, Try.ntmps55
      go_wp2_with fail
      refine (specl23Chamber _ 0 a1 a2 a3 _ (by simp) (by simp) (by simp)).mono ?_; rintro e w1 ⟨rfl, rfl⟩
      have HV := hide hv
      have BB := hide ((Below.refl w.heap.size w).alloc (Nat.le_refl _) (.cells #[.int .i64 a1, .int .i64 a2, .int .i64 a3] 86))
      have HCH0 := hide (heap_alloc_new w (.cells #[.int .i64 a1, .int .i64 a2, .int .i64 a3] 86))
      have hwz : w.heap.size < (w.alloc (.cells #[.int .i64 a1, .int .i64 a2, .int .i64 a3] 86)).heap.size := by simp
      clear hv
      generalize w.alloc (.cells #[.int .i64 a1, .int .i64 a2, .int .i64 a3] 86) = w1 at *
      go_wp2_with fail
      go_loop [14] (fun v => ∃ k : Nat, v = .int .i64 k ∧ k ≤ rs.length ∧ Hid (∀ j (hj : j < rs.length), j < k → inB rs[j] 1 5000 = true)) (fun v => rs.length - (intOf v).toNat)
      case atStart => exact ⟨0, rfl, by omega, hide (fun j _ h => by omega)⟩
      case round =>
        obtain ⟨k, rfl, hk, HJ⟩ := hrel
        by_cases hlt : k < rs.length
        · obtain ⟨bq, oq, rfl, hbq, hc⟩ := HX.out k hlt
          have hc0 := hc 0 _ rfl
          simp only [Nat.add_zero, Nat.mul_one] at hc0
          clear hc
          have hbad := fun h3 => lay_2 (g := g) (sp := sp) (z := z) (bud := bud) HV.out h24' k hlt h3
          have hstep : inB rs[k] 1 5000 = true → ∀ j (hj : j < rs.length), j < k + 1 → inB rs[j] 1 5000 = true := fun h j hj hjk => by
            by_cases ej : j = k
            · subst ej; exact h
            · exact HJ.out j hj (by omega)
          have HBAD := hide hbad
          have HSTEP := hide hstep
          clear hbad hstep
          generalize rs[k] = r at *
          cases hr : inB r 1 5000
          · have e := hide (HBAD.out hr)
            go_wp2_with (first | (go_at_call 124; refine (specl23Gap_any _ _).mono ?_; rintro e2 w2 ⟨rfl, rfl⟩) | (go_at_call 96; refine (specl00In_any _ _ _ _).mono ?_; rintro e2 w2 ⟨rfl, rfl⟩))
            go_ret2
            exact slRes_nil e.out BB.out
          · have HS2 := hide (HSTEP.out hr)
            go_wp2_with (first | (go_at_call 124; refine (specl23Gap_any _ _).mono ?_; rintro e2 w2 ⟨rfl, rfl⟩) | (go_at_call 96; refine (specl00In_any _ _ _ _).mono ?_; rintro e2 w2 ⟨rfl, rfl⟩))
            go_round
            case rel => exact ⟨k + 1, by go_num, by omega, HS2⟩
            case measure => simp [intOf]; omega
        · obtain rfl : k = rs.length := by omega
          have HALL := hide (show ∀ r ∈ rs, inB r 1 5000 = true from fun r hr => by
            obtain ⟨j, hj, rfl⟩ := List.getElem_of_mem hr
            exact HJ.out j hj hj)
          clear HJ
          cases hok : (inB g 0 5000 && inB sp 1 20000 && inB z 0 20000 && inB bud 1 20000)
          · have e := hide (lay_3 (bud := bud) HV.out h24' HALL.out hok)
            have HOK := hide hok
            clear hok
            cases h1 : inB g 0 5000
            · go_wp2_with (first | (go_at_call 124; refine (specl23Gap_any _ _).mono ?_; rintro e2 w2 ⟨rfl, rfl⟩) | (go_at_call 96; refine (specl00In_any _ _ _ _).mono ?_; rintro e2 w2 ⟨rfl, rfl⟩))
              go_ret2
              exact slRes_nil e.out BB.out
            · cases h2 : inB sp 1 20000
              · go_wp2_with (first | (go_at_call 124; refine (specl23Gap_any _ _).mono ?_; rintro e2 w2 ⟨rfl, rfl⟩) | (go_at_call 96; refine (specl00In_any _ _ _ _).mono ?_; rintro e2 w2 ⟨rfl, rfl⟩))
                go_ret2
                exact slRes_nil e.out BB.out
              · cases h3 : inB z 0 20000
                · go_wp2_with (first | (go_at_call 124; refine (specl23Gap_any _ _).mono ?_; rintro e2 w2 ⟨rfl, rfl⟩) | (go_at_call 96; refine (specl00In_any _ _ _ _).mono ?_; rintro e2 w2 ⟨rfl, rfl⟩))
                  go_ret2
                  exact slRes_nil e.out BB.out
                · cases h4 : inB bud 1 20000
                  · go_wp2_with (first | (go_at_call 124; refine (specl23Gap_any _ _).mono ?_; rintro e2 w2 ⟨rfl, rfl⟩) | (go_at_call 96; refine (specl00In_any _ _ _ _).mono ?_; rintro e2 w2 ⟨rfl, rfl⟩))
                    go_ret2
                    exact slRes_nil e.out BB.out
                  · have := HOK.out
                    rw [h1, h2, h3, h4] at this
                    cases this
          · simp only [Bool.and_eq_true] at hok
            obtain ⟨⟨⟨h1, h2⟩, h3⟩, h4⟩ := hok
            have e := hide (lay_4 HV.out h24' HALL.out h1 h2 h3 h4)
            obtain ⟨p1, p2⟩ := inB_true h2
            obtain ⟨p3, p4⟩ := inB_true h4
            have HG := hide h1
            have HSP := hide h2
            have HZ := hide h3
            go_wp2_with (first | (go_at_call 124; refine (specl23Gap_any _ _).mono ?_; rintro e2 w2 ⟨rfl, rfl⟩) | (go_at_call 96; refine (specl00In_any _ _ _ _).mono ?_; rintro e2 w2 ⟨rfl, rfl⟩))
            have hch := HCH0.out
            have q0 : w1.cell? ⟨w.heap.size, 0, none⟩ = some (.int .i64 a1) := by simp [World.cell?, hch]
            have q1 : w1.cell? ⟨w.heap.size, 1, none⟩ = some (.int .i64 a2) := by simp [World.cell?, hch]
            clear h1 h2 h3 h4 hch
            obtain ⟨d0, d1⟩ := quo_bd (a := a1) (b := sp) (by omega) b2 p1
            obtain ⟨d2, d3⟩ := quo_bd (a := a2) (b := sp) (by omega) b4 p1
            have d4 := prod_bd (M := 20000) (N := 20000) d0 d1 d2 d3
            obtain ⟨d5, d6⟩ := d4
            have k0 : IntKind.i64.wrap (a1 / sp) = a1 / sp := IntWalk.i64_in _ (by omega)
            have k1 : IntKind.i64.wrap (a2 / sp) = a2 / sp := IntWalk.i64_in _ (by omega)
            have k2 : IntKind.i64.wrap (a1 / sp * (a2 / sp)) = a1 / sp * (a2 / sp) := IntWalk.i64_in _ (by omega)
            have k3 : sp ≠ 0 := by omega
            refine wp_region_kept (by kernel_rfl) (by kernel_rfl) ?_
            intro gc gf gz
            repeat (go_big_quiet_step (fail))
            refine wpQuiet_nil ?_
            intro w2 hw'
            obtain ⟨⟨_, hb2⟩, rfl⟩ := hw'
            clear gc gf gz
            try dsimp only
            have fs2 := hb2.size
            try simp at fs2 hb2
            have BB2 := hide (BB.out.trans (hb2.mono BB.out.size))
            have HX2 := hide (HX.out.below hb2)
            have HCH2 := hide ((hb2.block w.heap.size hwz).trans HCH0.out)
            clear hb2 q0 q1 k0 k1 k2 BB HX HCH0
            by_cases hm : 20000 < a1 / sp * (a2 / sp)
            · have e2 := hide (show layR a1 a2 a3 rs g sp z bud = ([], 5) from by rw [e.out, if_pos hm])
              go_wp2_with fail
              go_ret2
              exact slRes_nil e2.out BB2.out
            · have e2 := hide (show layR a1 a2 a3 rs g sp z bud = if (lastL a1 a2 a3 rs g sp z bud).spent then ([], 5) else if (lastL a1 a2 a3 rs g sp z bud).got then ((lastL a1 a2 a3 rs g sp z bud).list, 0) else ([], 3) from by rw [e.out, if_neg hm])
              have hI : LyX w2 w2.heap.size w.heap.size A rs.length c g sp z bud (w2.alloc (.cells (lyCellsX w.heap.size A rs.length c g sp z none 0 0 0 bud) 184)) none 0 [] ⟨bud, false, false, []⟩ := by
                refine ⟨?_, Own.nil, ⟨by simp only; omega, by simp only; omega⟩, ⟨by simp only; omega, p4⟩, (Below.refl _ _).alloc (Nat.le_refl _) _, Nat.le_refl _⟩
                have e0 : Ly.nodes bud ⟨bud, false, false, []⟩ = 0 := by simp [Ly.nodes]
                rw [e0]
                exact heap_alloc_new _ _
              have hs := visitLy_any w2 w2.heap.size w.heap.size A c a1 a2 a3 g sp z bud rs HX2 HALL h24' HV HG HSP HZ HCH2 (rs.length + 1) [] ⟨bud, false, false, []⟩ _ none 0 (by simp) (by simp) (hide hI) (hide (fun q hq => by simp at hq)) rfl
              have HS := hide hs
              clear hI hs e
              go_wp2_with fail
              refine HS.out.mono ?_
              rintro e3 w3 ⟨s', pv, pc, l', rfl, hs', hI, hN, hF⟩
              have HS' := hide (show lastL a1 a2 a3 rs g sp z bud = s' from hs')
              have HI := hide hI
              have HN := hide hN
              have hst := hI.st
              have g6 : w3.cell? ⟨w2.heap.size, 6, none⟩ = some (.int .i64 (Ly.nodes bud s')) := by simp [World.cell?, hst]
              have g5 : w3.cell? ⟨w2.heap.size, 5, none⟩ = some (.slice pv l'.length pc) := by simp [World.cell?, hst]
              have BB3 := hide (BB2.out.trans (hI.bel.mono BB2.out.size))
              have hz3 := hI.lt
              obtain ⟨v0, v1⟩ := hI.inv
              obtain ⟨v2, v3⟩ := hI.bud
              clear hs' hI hF hst HS hN
              cases hsp : s'.spent
              · have hle : decide (bud < Ly.nodes bud s') = false := by unfold Ly.nodes; rw [hsp]; simp; omega
                have hnodes : ¬ bud < Ly.nodes bud s' := by unfold Ly.nodes; rw [hsp]; simp; omega
                have hl' := HN.out hsp
                cases hgt : s'.got
                · have hen : Ly.ended s' = false := by unfold Ly.ended; rw [hsp, hgt]; rfl
                  have e4 := hide (show layR a1 a2 a3 rs g sp z bud = ([], 3) from by rw [e2.out, HS'.out, hsp, hgt]; rfl)
                  rw [hen]
                  clear hsp hgt hl' hen
                  go_wp2_with fail
                  go_ret2
                  exact slRes_nil e4.out BB3.out
                · have hen : Ly.ended s' = true := ly_ended_got hgt
                  have e4 := hide (show layR a1 a2 a3 rs g sp z bud = (s'.list, 0) from by rw [e2.out, HS'.out, hsp, hgt]; rfl)
                  have hnow : Ly.now [] s' = s'.list := by unfold Ly.now; rw [hgt]; rfl
                  rw [hnow] at hl'
                  subst hl'
                  have hln := (lastL_fine (a1 := a1) (a2 := a2) (a3 := a3) (rs := rs) (g := g) (sp := sp) (z := z) (bud := bud) (by rw [HS'.out]; exact hgt)).2
                  rw [HS'.out] at hln
                  have hl1 : s'.list.length ≤ 24 := by omega
                  have hzz := BB3.out.size
                  have HB4 := hide (BB3.out.alloc BB3.out.size (.cells #[] 95))
                  have H0 := hide (own_made (enc := encPlace) (sz := 5) (T := 95) w3 rfl (Nat.le_refl _))
                  have HO := hide (HI.out.oc.below ((Below.refl _ _).alloc (Nat.le_refl _) (.cells #[] 95)))
                  rw [hen]
                  clear hsp hgt hnow hen hln
                  go_wp2_with (at_builtin; go_loud (refine wpList_appPs (xs := []) rfl _ _ rfl w3.heap.size (w2.heap.size + 1) rfl H0.out rfl HO.out (by simp; omega) (by simp) ?_; intro A5 c5 w5 ho5 hb5 _hg5; have HO5 := hide ho5; have HB5 := hide (BB3.out.trans (Below.mono (Below.trans ((Below.refl w3.heap.size w3).alloc (Nat.le_refl _) (.cells #[] 95)) hb5) hzz)); clear ho5 hb5))
                  go_ret2
                  exact ⟨A5, c5, s'.list, 0, by simp, e4.out, by omega, (show Own encPlace 5 95 w5 w3.heap.size (.slice A5 s'.list.length c5) s'.list by simpa using HO5.out).mono hzz, HB5.out⟩
              · have e4 := hide (show layR a1 a2 a3 rs g sp z bud = ([], 5) from by rw [e2.out, HS'.out, hsp]; rfl)
                have hlt : decide (bud < Ly.nodes bud s') = true := by unfold Ly.nodes; rw [hsp]; simp; omega
                have hnodes : bud < Ly.nodes bud s' := by unfold Ly.nodes; rw [hsp]; simp; omega
                clear hsp
                go_wp2_with fail
                go_ret2
                exact slRes_nil e4.out BB3.out
end Go.Proofs.Ytjklhacffdhgaaa
