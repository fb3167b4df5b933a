/- What the reference draws: rows of swings. -/
import Derived.Test.YtjklhacffdhgaaaTow
import Derived.Test.YtjklhacffdhgaaaRows2
import Derived.Laws.IdiomStrings
namespace Go.Proofs.Ytjklhacffdhgaaa
open Go.RowKit

theorem infoA_Swing : (Try.prog.info? 77).map (fun i => (i.zero, i.size, i.bytes)) = some (some (.agg #[.string ByteArray.empty, .int .i64 0, .int .i64 0]), 3, 32) := by kernel_rfl
theorem one_Swing (x : SwingR) : ∀ u ∈ encSwing x, u.oneCell' = true := by intro u hu; simp [encSwing] at hu; rcases hu with rfl | rfl | rfl <;> rfl
set_option maxRecDepth 100000 in
theorem wpList_appSwing {w : World} {ops : Array Oper} {rest : List Oper} {o : Oper} {a : Act} {Q : Exit → Act → World → Prop} (hgd : o.guard = none) (s x : Operand) (ho : o.op = .call { callee := .builtin .append, args := #[s, x], argTypes := #[58, 58] }) (B : Nat) {v : Value} {xs : List SwingR} (hs : a.eval s = v)
    (hown : Own encSwing 3 77 w B v xs) {y0 : ByteArray} {y1 : Int} {y2 : Int} {b : Nat} (hx : a.eval x = .slice (some ⟨b, 0, none⟩) 1 1) (hn : xs.length ≤ 1048576) (hB : B ≤ w.heap.size)
    (h : ∀ (A : Option Addr) (c : Nat) (w' : World), Own encSwing 3 77 w' B (.slice A (xs.length + 1) c) (xs ++ [⟨y0, y1, y2⟩]) → Below B w w' → w.grownBy w' v.ownBlock → wpList Try.prog ops Q rest (a.put o.dst (.slice A (xs.length + 1) c)) w') (hbk : b = w.heap.size := by first | rfl | simp) : wpList Try.prog ops Q (o :: rest) a (w.alloc (.cells #[.string y0, .int .i64 y1, .int .i64 y2] 77)) := by
  subst hbk
  obtain ⟨i0, hi, hz0, hz1, hz2⟩ := info_parts infoA_Swing
  have hb0 : Below w.heap.size w (w.alloc (.cells #[.string y0, .int .i64 y1, .int .i64 y2] 77)) := (Below.refl _ _).alloc (Nat.le_refl _) _
  refine wpList_app Try.underlying58 hi hz0 hz1 hz2 rfl (by omega) (by omega) (fun _ => rfl) hgd s x ho B hs (hown.below hb0) ⟨y0, y1, y2⟩ (one_Swing _) hx (fun j u hj => ?_) hn (by simp; omega) fun A c w' h1 h2 h3 => h A c w' h1 ((hb0.mono hB).trans h2) (grown_trans (grown_of_below hb0 _) h3)
  match j, hj with
  | 0, hj => injection hj with hj; subst hj; simp [Addr.add]
  | 1, hj => injection hj with hj; subst hj; simp [Addr.add]
  | 2, hj => injection hj with hj; subst hj; simp [Addr.add]
theorem Own.at2 {α : Type} {enc : α → List Value} {sz : Nat} {T : TypeId} {w : World} {B c : Nat} {A : Option Addr} {xs : List α} (he : ∀ x, (enc x).length = sz) (h : Own enc sz T w B (.slice A xs.length c) xs) : SlAt enc sz w A xs ∧ ∀ g o, A = some ⟨g, o, none⟩ → B ≤ g :=
  ⟨h.at_ he, fun g o e => by subst e; exact (h.lt g rfl).1⟩
def Small (xs : List SwingR) : Prop := ∀ x ∈ xs, x.nm.size ≤ 100
theorem Small.push {xs : List SwingR} {x : SwingR} (h : Small xs) (hx : x.nm.size ≤ 100) : Small (xs ++ [x]) := fun y hy => by
  rcases List.mem_append.1 hy with hy | hy
  · exact h y hy
  · simp at hy; subst hy; exact hx
set_option maxRecDepth 100000 in
set_option maxHeartbeats 2000000 in
theorem specl22Draw (B b N : Nat) (w : World) (h : Src w B b N) (hN : N ≤ 500) :
    Calls Try.prog 114 #[.pointer (some ⟨b, 0, none⟩)] w fun e w' => ∃ (A : Option Addr) (c : Nat) (xs : List SwingR), e = .returned (.slice A xs.length c) ∧ SlAt encSwing 3 w' A xs ∧ (∀ g o, A = some ⟨g, o, none⟩ → w.heap.size ≤ g) ∧ xs.length ≤ 1000 ∧ Small xs ∧ Src w' B b (N + 100) ∧ Below B w w' ∧ w.grownBy w' (some b) := by
  have HS := hide h
  have hl := h.lt
  have h0 := h.1
  clear h
  go_enter Try.func114, Try.ntmps114
  go_wp2_with fail
  refine (srcPick B b N _ _ (HS.out.below (by repeat (first | with_reducible exact Below.refl _ _ | with_reducible assumption | (with_reducible refine Below.drew ?_) | (with_reducible refine below_drewN ?_ _) | ((with_reducible refine Below.alloc ?_ ?_ _); rotate_left; (focus (first | omega | (simp; omega) | simp))) | ((with_reducible refine Below.setCell ?_ ?_ _); rotate_left; (focus (first | omega | (simp; omega) | simp))) | (refine Below.trans ?_ (Below.mono (by assumption) (by first | omega | (simp; omega) | simp)))))) (by omega) (by omega)).mono ?_
  rintro e w1 ⟨r, rfl, p1, q1, hS, hb, hg⟩
  have q1' := q1 (by omega)
  obtain ⟨k1, rfl⟩ := Int.eq_ofNat_of_zero_le p1
  have HO := hide (Own.kept (own_made (enc := encSwing) (sz := 3) (T := 77) w rfl (Nat.le_refl _)) hg (.inr (by intro e; have e : some w.heap.size = some b := e; injection e with e; omega)))
  have HSr := hide hS
  have HB := hide (show Below B w w1 from Below.trans (show Below B w _ from (by repeat (first | with_reducible exact Below.refl _ _ | with_reducible assumption | (with_reducible refine Below.drew ?_) | (with_reducible refine below_drewN ?_ _) | ((with_reducible refine Below.alloc ?_ ?_ _); rotate_left; (focus (first | omega | (simp; omega) | simp))) | ((with_reducible refine Below.setCell ?_ ?_ _); rotate_left; (focus (first | omega | (simp; omega) | simp))) | (refine Below.trans ?_ (Below.mono (by assumption) (by first | omega | (simp; omega) | simp)))))) hb)
  have GK := hide (grown_trans (grown_alloc (grown_refl w _) _) hg)
  clear q1 hS hb hg HS
  go_wp2_with fail
  go_loopw [4, 3] (fun v o wr => ∃ (k : Nat) (A : Option Addr) (c : Nat) (xs : List SwingR), v = .int .i64 k ∧ o = .slice A xs.length c ∧ k ≤ 7 ∧ xs.length + k ≤ 7 ∧ Hid (Small xs) ∧ Hid (Src wr B b (N + 2 + 6 * (7 - k))) ∧ Hid (Own encSwing 3 77 wr w.heap.size (.slice A xs.length c) xs) ∧ Hid (Below B w wr) ∧ Hid (w.grownBy wr (some b))) (fun v _ _ => (intOf v).toNat)
  case atStart => exact ⟨k1, _, _, [], rfl, rfl, by omega, by simp; omega, fun x hx => by simp at hx, hide (HSr.out.more (by omega)), HO, HB, GK⟩
  case round =>
    clear HO HSr HB GK
    obtain ⟨k, A, c, xs, rfl, rfl, hk, hkl, HSm, HS, HO, HB, GK⟩ := hrel
    by_cases h : 0 < k
    · go_wp2_with fail
      refine (specl22DrawOne B b (N + 2 + 6 * (7 - k)) _ HS.out (by omega)).mono ?_
      rintro e w2 ⟨nm, a1, a2, rfl, hnm, hS, hb, hg⟩
      have HO2 := hide (Own.kept HO.out hg (by
        cases hv : (Value.slice A xs.length c).ownBlock with
        | none => exact .inl rfl
        | some g => exact .inr fun e => by injection e with e; have := (HO.out.lt g hv).1; omega))
      have HS2 := hide (hS.more (N' := N + 2 + 6 * (7 - (k - 1))) (by omega))
      have HB2 := hide (HB.out.trans hb)
      have GK2 := hide (grown_trans GK.out hg)
      have hz2 : w.heap.size ≤ w2.heap.size := GK2.out.size
      have HX2 := hide ((Own.at_ (enc := encSwing) (sz := 3) (fun _ => rfl) HO2.out).below (w' := w2.alloc (.cells #[.string nm, .int .i64 a1, .int .i64 a2] 77)) ((Below.refl _ _).alloc (Nat.le_refl _) _))
      clear hS hb hg HS HB GK HO
      go_wp2_with fail
      have HN := hide (own_made (enc := encSwing) (sz := 3) (T := 77) (B := w2.heap.size + 1) (w2.alloc (.cells #[.string nm, .int .i64 a1, .int .i64 a2] 77)) (b := w2.heap.size + 1) (by simp) (by simp))
      go_loopw [8, 6, 7] (fun v nx dn wr => ∃ (i : Nat) (A2 : Option Addr) (c2 : Nat) (ys : List SwingR) (d : Bool), v = .int .i64 i ∧ nx = .slice A2 ys.length c2 ∧ dn = .bool d ∧ i ≤ xs.length ∧ ys.length ≤ i + (if d then 1 else 0) ∧ Hid (Small ys) ∧ Hid (Own encSwing 3 77 wr (w2.heap.size + 1) (.slice A2 ys.length c2) ys) ∧ Hid (Below (w2.heap.size + 1) (w2.alloc (.cells #[.string nm, .int .i64 a1, .int .i64 a2] 77)) wr)) (fun v _ _ _ => xs.length - (intOf v).toNat)
      case atStart => exact ⟨0, _, _, [], false, rfl, rfl, rfl, by omega, by simp, fun x hx => by simp at hx, HN, hide ((Below.refl _ _).alloc (by simp) _)⟩
      case round =>
        clear HN
        obtain ⟨i, A2, c2, ys, d, rfl, rfl, rfl, hi, hyl, HSy, HN, HBi⟩ := hrel
        have hzi : w2.heap.size + 1 ≤ wr.heap.size := by have := HBi.out.size; simpa using this
        by_cases hlt : i < xs.length
        · obtain ⟨g, off, rfl, hgl, hc⟩ := HX2.out i hlt
          simp only [World.alloc, Array.size_push] at hgl
          have hc0 := (HBi.out.cell (p := ⟨g, off + i * 3 + 0, none⟩) hgl).trans (hc 0 _ rfl)
          have hc1 := (HBi.out.cell (p := ⟨g, off + i * 3 + 1, none⟩) hgl).trans (hc 1 _ rfl)
          have hc2 := (HBi.out.cell (p := ⟨g, off + i * 3 + 2, none⟩) hgl).trans (hc 2 _ rfl)
          have hm := HSm.out xs[i] (List.getElem_mem hlt)
          have hb0 := (HBi.out.cell (p := ⟨w2.heap.size, 0, none⟩) (by simp)).trans (by simp : _ = some (Value.string nm))
          have hb1 := (HBi.out.cell (p := ⟨w2.heap.size, 1, none⟩) (by simp)).trans (by simp : _ = some (Value.int .i64 a1))
          have hb2 := (HBi.out.cell (p := ⟨w2.heap.size, 2, none⟩) (by simp)).trans (by simp : _ = some (Value.int .i64 a2))
          simp only [Nat.add_zero] at hc0
          clear hc
          generalize xs[i] = x at *
          obtain ⟨x0, x1, x2⟩ := x
          simp only at hc0 hc1 hc2 hm
          have hy8 : ys.length ≤ 9 := by split at hyl <;> omega
          have hi0 : (0 : Int) ≤ (i : Int) := Int.natCast_nonneg _
          cases hge : (!Op.bytesLess x0.toList nm.toList)
          · cases hne : (x0.toList == nm.toList)
            · cases d
              · go_wp2_with fail
                go_quiet (fail)
                go_wp2_with fail
                go_quiet (fail)
                go_wp2_with (at_builtin; go_loud (refine wpList_appSwing rfl _ _ rfl (w2.heap.size + 1) rfl (Own.below HN.out (by repeat (first | with_reducible exact Below.refl _ _ | with_reducible assumption | (with_reducible refine Below.drew ?_) | (with_reducible refine below_drewN ?_ _) | ((with_reducible refine Below.alloc ?_ ?_ _); rotate_left; (focus (first | omega | (simp; omega) | simp))) | ((with_reducible refine Below.setCell ?_ ?_ _); rotate_left; (focus (first | omega | (simp; omega) | simp))) | (refine Below.trans ?_ (Below.mono (by assumption) (by first | omega | (simp; omega) | simp)))))) rfl (by omega) ?_ ?_; (focus (simp; omega)); intro A3 d3 w3 ho3 hk3 _hg3; have kz3 := hk3.size; simp at kz3; have kc0_3 : w3.cell? ⟨g, off + i * 3, none⟩ = some (.string x0) := (hk3.cell (p := ⟨g, off + i * 3, none⟩) hgl).trans hc0; have kc1_3 : w3.cell? ⟨g, off + i * 3 + 1, none⟩ = some (.int .i64 x1) := (hk3.cell (p := ⟨g, off + i * 3 + 1, none⟩) hgl).trans hc1; have kc2_3 : w3.cell? ⟨g, off + i * 3 + 2, none⟩ = some (.int .i64 x2) := (hk3.cell (p := ⟨g, off + i * 3 + 2, none⟩) hgl).trans hc2; have kb0_3 : w3.cell? ⟨w2.heap.size, 0, none⟩ = some (.string nm) := (hk3.cell (p := ⟨w2.heap.size, 0, none⟩) (by simp)).trans hb0; have HN3 := hide ho3; have HK3 := hide ((below_drewN HBi.out _).trans hk3); clear ho3 hk3))
                have HS3 := hide (HSy.out.push (x := ⟨x0, x1, x2⟩) hm)
                go_wp2_with fail
                go_roundw
                case rel => exact ⟨i + 1, A3, d3, ys ++ [(⟨x0, x1, x2⟩ : SwingR)], false, by go_num, by simp, rfl, by omega, by simp at hyl ⊢; omega, HS3, by first | exact HN3 | simpa using HN3, HK3⟩
                case measure => simp [intOf]; omega
              · go_wp2_with fail
                go_quiet (fail)
                go_wp2_with fail
                go_quiet (fail)
                go_wp2_with (at_builtin; go_loud (refine wpList_appSwing rfl _ _ rfl (w2.heap.size + 1) rfl (Own.below HN.out (by repeat (first | with_reducible exact Below.refl _ _ | with_reducible assumption | (with_reducible refine Below.drew ?_) | (with_reducible refine below_drewN ?_ _) | ((with_reducible refine Below.alloc ?_ ?_ _); rotate_left; (focus (first | omega | (simp; omega) | simp))) | ((with_reducible refine Below.setCell ?_ ?_ _); rotate_left; (focus (first | omega | (simp; omega) | simp))) | (refine Below.trans ?_ (Below.mono (by assumption) (by first | omega | (simp; omega) | simp)))))) rfl (by omega) ?_ ?_; (focus (simp; omega)); intro A3 d3 w3 ho3 hk3 _hg3; have kz3 := hk3.size; simp at kz3; have kc0_3 : w3.cell? ⟨g, off + i * 3, none⟩ = some (.string x0) := (hk3.cell (p := ⟨g, off + i * 3, none⟩) hgl).trans hc0; have kc1_3 : w3.cell? ⟨g, off + i * 3 + 1, none⟩ = some (.int .i64 x1) := (hk3.cell (p := ⟨g, off + i * 3 + 1, none⟩) hgl).trans hc1; have kc2_3 : w3.cell? ⟨g, off + i * 3 + 2, none⟩ = some (.int .i64 x2) := (hk3.cell (p := ⟨g, off + i * 3 + 2, none⟩) hgl).trans hc2; have kb0_3 : w3.cell? ⟨w2.heap.size, 0, none⟩ = some (.string nm) := (hk3.cell (p := ⟨w2.heap.size, 0, none⟩) (by simp)).trans hb0; have HN3 := hide ho3; have HK3 := hide ((below_drewN HBi.out _).trans hk3); clear ho3 hk3))
                have HS3 := hide (HSy.out.push (x := ⟨x0, x1, x2⟩) hm)
                go_wp2_with fail
                go_roundw
                case rel => exact ⟨i + 1, A3, d3, ys ++ [(⟨x0, x1, x2⟩ : SwingR)], true, by go_num, by simp, rfl, by omega, by simp at hyl ⊢; omega, HS3, by first | exact HN3 | simpa using HN3, HK3⟩
                case measure => simp [intOf]; omega
            · cases d
              · go_wp2_with fail
                go_quiet (fail)
                go_wp2_with fail
                go_quiet (fail)
                go_wp2_with fail
                go_roundw
                case rel => exact ⟨i + 1, A2, c2, ys, false, by go_num, by simp, rfl, by omega, by simp at hyl ⊢; omega, HSy, by first | exact hide (Own.below HN.out (by repeat (first | with_reducible exact Below.refl _ _ | with_reducible assumption | (with_reducible refine Below.drew ?_) | (with_reducible refine below_drewN ?_ _) | ((with_reducible refine Below.alloc ?_ ?_ _); rotate_left; (focus (first | omega | (simp; omega) | simp))) | ((with_reducible refine Below.setCell ?_ ?_ _); rotate_left; (focus (first | omega | (simp; omega) | simp))) | (refine Below.trans ?_ (Below.mono (by assumption) (by first | omega | (simp; omega) | simp)))))) | simpa using hide (Own.below HN.out (by repeat (first | with_reducible exact Below.refl _ _ | with_reducible assumption | (with_reducible refine Below.drew ?_) | (with_reducible refine below_drewN ?_ _) | ((with_reducible refine Below.alloc ?_ ?_ _); rotate_left; (focus (first | omega | (simp; omega) | simp))) | ((with_reducible refine Below.setCell ?_ ?_ _); rotate_left; (focus (first | omega | (simp; omega) | simp))) | (refine Below.trans ?_ (Below.mono (by assumption) (by first | omega | (simp; omega) | simp)))))), hide (below_drewN HBi.out _)⟩
                case measure => simp [intOf]; omega
              · go_wp2_with fail
                go_quiet (fail)
                go_wp2_with fail
                go_quiet (fail)
                go_wp2_with fail
                go_roundw
                case rel => exact ⟨i + 1, A2, c2, ys, true, by go_num, by simp, rfl, by omega, by simp at hyl ⊢; omega, HSy, by first | exact hide (Own.below HN.out (by repeat (first | with_reducible exact Below.refl _ _ | with_reducible assumption | (with_reducible refine Below.drew ?_) | (with_reducible refine below_drewN ?_ _) | ((with_reducible refine Below.alloc ?_ ?_ _); rotate_left; (focus (first | omega | (simp; omega) | simp))) | ((with_reducible refine Below.setCell ?_ ?_ _); rotate_left; (focus (first | omega | (simp; omega) | simp))) | (refine Below.trans ?_ (Below.mono (by assumption) (by first | omega | (simp; omega) | simp)))))) | simpa using hide (Own.below HN.out (by repeat (first | with_reducible exact Below.refl _ _ | with_reducible assumption | (with_reducible refine Below.drew ?_) | (with_reducible refine below_drewN ?_ _) | ((with_reducible refine Below.alloc ?_ ?_ _); rotate_left; (focus (first | omega | (simp; omega) | simp))) | ((with_reducible refine Below.setCell ?_ ?_ _); rotate_left; (focus (first | omega | (simp; omega) | simp))) | (refine Below.trans ?_ (Below.mono (by assumption) (by first | omega | (simp; omega) | simp)))))), hide (below_drewN HBi.out _)⟩
                case measure => simp [intOf]; omega
          · cases hne : (x0.toList == nm.toList)
            · cases d
              · go_wp2_with fail
                go_quiet (fail)
                go_wp2_with (at_builtin; go_loud (refine wpList_appSwing rfl _ _ rfl (w2.heap.size + 1) rfl (Own.below HN.out (by repeat (first | with_reducible exact Below.refl _ _ | with_reducible assumption | (with_reducible refine Below.drew ?_) | (with_reducible refine below_drewN ?_ _) | ((with_reducible refine Below.alloc ?_ ?_ _); rotate_left; (focus (first | omega | (simp; omega) | simp))) | ((with_reducible refine Below.setCell ?_ ?_ _); rotate_left; (focus (first | omega | (simp; omega) | simp))) | (refine Below.trans ?_ (Below.mono (by assumption) (by first | omega | (simp; omega) | simp)))))) rfl (by omega) ?_ ?_; (focus (simp; omega)); intro A3 d3 w3 ho3 hk3 _hg3; have kz3 := hk3.size; simp at kz3; have kc0_3 : w3.cell? ⟨g, off + i * 3, none⟩ = some (.string x0) := (hk3.cell (p := ⟨g, off + i * 3, none⟩) hgl).trans hc0; have kc1_3 : w3.cell? ⟨g, off + i * 3 + 1, none⟩ = some (.int .i64 x1) := (hk3.cell (p := ⟨g, off + i * 3 + 1, none⟩) hgl).trans hc1; have kc2_3 : w3.cell? ⟨g, off + i * 3 + 2, none⟩ = some (.int .i64 x2) := (hk3.cell (p := ⟨g, off + i * 3 + 2, none⟩) hgl).trans hc2; have kb0_3 : w3.cell? ⟨w2.heap.size, 0, none⟩ = some (.string nm) := (hk3.cell (p := ⟨w2.heap.size, 0, none⟩) (by simp)).trans hb0; have HN3 := hide ho3; have HK3 := hide ((below_drewN HBi.out _).trans hk3); clear ho3 hk3))
                have HS3 := hide (HSy.out.push (x := ⟨nm, a1, a2⟩) hnm)
                go_wp2_with fail
                go_quiet (fail)
                go_wp2_with (at_builtin; go_loud (refine wpList_appSwing rfl _ _ rfl (w2.heap.size + 1) rfl (Own.below HN3.out (by repeat (first | with_reducible exact Below.refl _ _ | with_reducible assumption | (with_reducible refine Below.drew ?_) | (with_reducible refine below_drewN ?_ _) | ((with_reducible refine Below.alloc ?_ ?_ _); rotate_left; (focus (first | omega | (simp; omega) | simp))) | ((with_reducible refine Below.setCell ?_ ?_ _); rotate_left; (focus (first | omega | (simp; omega) | simp))) | (refine Below.trans ?_ (Below.mono (by assumption) (by first | omega | (simp; omega) | simp)))))) rfl (by simp; omega) ?_ ?_; (focus (simp; omega)); intro A4 d4 w4 ho4 hk4 _hg4; have kz4 := hk4.size; simp at kz4; have kc0_4 : w4.cell? ⟨g, off + i * 3, none⟩ = some (.string x0) := (hk4.cell (p := ⟨g, off + i * 3, none⟩) hgl).trans kc0_3; have kc1_4 : w4.cell? ⟨g, off + i * 3 + 1, none⟩ = some (.int .i64 x1) := (hk4.cell (p := ⟨g, off + i * 3 + 1, none⟩) hgl).trans kc1_3; have kc2_4 : w4.cell? ⟨g, off + i * 3 + 2, none⟩ = some (.int .i64 x2) := (hk4.cell (p := ⟨g, off + i * 3 + 2, none⟩) hgl).trans kc2_3; have kb0_4 : w4.cell? ⟨w2.heap.size, 0, none⟩ = some (.string nm) := (hk4.cell (p := ⟨w2.heap.size, 0, none⟩) (by simp)).trans kb0_3; have HN4 := hide ho4; have HK4 := hide ((below_drewN HK3.out _).trans hk4); clear ho4 hk4))
                have HS4 := hide (HS3.out.push (x := ⟨x0, x1, x2⟩) hm)
                go_wp2_with fail
                go_roundw
                case rel => exact ⟨i + 1, A4, d4, (ys ++ [(⟨nm, a1, a2⟩ : SwingR)]) ++ [(⟨x0, x1, x2⟩ : SwingR)], true, by go_num, by simp, rfl, by omega, by simp at hyl ⊢; omega, HS4, by first | exact HN4 | simpa using HN4, HK4⟩
                case measure => simp [intOf]; omega
              · go_wp2_with fail
                go_quiet (fail)
                go_wp2_with fail
                go_quiet (fail)
                go_wp2_with (at_builtin; go_loud (refine wpList_appSwing rfl _ _ rfl (w2.heap.size + 1) rfl (Own.below HN.out (by repeat (first | with_reducible exact Below.refl _ _ | with_reducible assumption | (with_reducible refine Below.drew ?_) | (with_reducible refine below_drewN ?_ _) | ((with_reducible refine Below.alloc ?_ ?_ _); rotate_left; (focus (first | omega | (simp; omega) | simp))) | ((with_reducible refine Below.setCell ?_ ?_ _); rotate_left; (focus (first | omega | (simp; omega) | simp))) | (refine Below.trans ?_ (Below.mono (by assumption) (by first | omega | (simp; omega) | simp)))))) rfl (by omega) ?_ ?_; (focus (simp; omega)); intro A3 d3 w3 ho3 hk3 _hg3; have kz3 := hk3.size; simp at kz3; have kc0_3 : w3.cell? ⟨g, off + i * 3, none⟩ = some (.string x0) := (hk3.cell (p := ⟨g, off + i * 3, none⟩) hgl).trans hc0; have kc1_3 : w3.cell? ⟨g, off + i * 3 + 1, none⟩ = some (.int .i64 x1) := (hk3.cell (p := ⟨g, off + i * 3 + 1, none⟩) hgl).trans hc1; have kc2_3 : w3.cell? ⟨g, off + i * 3 + 2, none⟩ = some (.int .i64 x2) := (hk3.cell (p := ⟨g, off + i * 3 + 2, none⟩) hgl).trans hc2; have kb0_3 : w3.cell? ⟨w2.heap.size, 0, none⟩ = some (.string nm) := (hk3.cell (p := ⟨w2.heap.size, 0, none⟩) (by simp)).trans hb0; have HN3 := hide ho3; have HK3 := hide ((below_drewN HBi.out _).trans hk3); clear ho3 hk3))
                have HS3 := hide (HSy.out.push (x := ⟨x0, x1, x2⟩) hm)
                go_wp2_with fail
                go_roundw
                case rel => exact ⟨i + 1, A3, d3, ys ++ [(⟨x0, x1, x2⟩ : SwingR)], true, by go_num, by simp, rfl, by omega, by simp at hyl ⊢; omega, HS3, by first | exact HN3 | simpa using HN3, HK3⟩
                case measure => simp [intOf]; omega
            · cases d
              · go_wp2_with fail
                go_quiet (fail)
                go_wp2_with (at_builtin; go_loud (refine wpList_appSwing rfl _ _ rfl (w2.heap.size + 1) rfl (Own.below HN.out (by repeat (first | with_reducible exact Below.refl _ _ | with_reducible assumption | (with_reducible refine Below.drew ?_) | (with_reducible refine below_drewN ?_ _) | ((with_reducible refine Below.alloc ?_ ?_ _); rotate_left; (focus (first | omega | (simp; omega) | simp))) | ((with_reducible refine Below.setCell ?_ ?_ _); rotate_left; (focus (first | omega | (simp; omega) | simp))) | (refine Below.trans ?_ (Below.mono (by assumption) (by first | omega | (simp; omega) | simp)))))) rfl (by omega) ?_ ?_; (focus (simp; omega)); intro A3 d3 w3 ho3 hk3 _hg3; have kz3 := hk3.size; simp at kz3; have kc0_3 : w3.cell? ⟨g, off + i * 3, none⟩ = some (.string x0) := (hk3.cell (p := ⟨g, off + i * 3, none⟩) hgl).trans hc0; have kc1_3 : w3.cell? ⟨g, off + i * 3 + 1, none⟩ = some (.int .i64 x1) := (hk3.cell (p := ⟨g, off + i * 3 + 1, none⟩) hgl).trans hc1; have kc2_3 : w3.cell? ⟨g, off + i * 3 + 2, none⟩ = some (.int .i64 x2) := (hk3.cell (p := ⟨g, off + i * 3 + 2, none⟩) hgl).trans hc2; have kb0_3 : w3.cell? ⟨w2.heap.size, 0, none⟩ = some (.string nm) := (hk3.cell (p := ⟨w2.heap.size, 0, none⟩) (by simp)).trans hb0; have HN3 := hide ho3; have HK3 := hide ((below_drewN HBi.out _).trans hk3); clear ho3 hk3))
                have HS3 := hide (HSy.out.push (x := ⟨nm, a1, a2⟩) hnm)
                go_wp2_with fail
                go_quiet (fail)
                go_wp2_with fail
                go_roundw
                case rel => exact ⟨i + 1, A3, d3, (ys ++ [(⟨nm, a1, a2⟩ : SwingR)]), true, by go_num, by simp, rfl, by omega, by simp at hyl ⊢; omega, HS3, by first | exact hide (Own.below HN3.out (by repeat (first | with_reducible exact Below.refl _ _ | with_reducible assumption | (with_reducible refine Below.drew ?_) | (with_reducible refine below_drewN ?_ _) | ((with_reducible refine Below.alloc ?_ ?_ _); rotate_left; (focus (first | omega | (simp; omega) | simp))) | ((with_reducible refine Below.setCell ?_ ?_ _); rotate_left; (focus (first | omega | (simp; omega) | simp))) | (refine Below.trans ?_ (Below.mono (by assumption) (by first | omega | (simp; omega) | simp)))))) | simpa using hide (Own.below HN3.out (by repeat (first | with_reducible exact Below.refl _ _ | with_reducible assumption | (with_reducible refine Below.drew ?_) | (with_reducible refine below_drewN ?_ _) | ((with_reducible refine Below.alloc ?_ ?_ _); rotate_left; (focus (first | omega | (simp; omega) | simp))) | ((with_reducible refine Below.setCell ?_ ?_ _); rotate_left; (focus (first | omega | (simp; omega) | simp))) | (refine Below.trans ?_ (Below.mono (by assumption) (by first | omega | (simp; omega) | simp)))))), hide (below_drewN HK3.out _)⟩
                case measure => simp [intOf]; omega
              · go_wp2_with fail
                go_quiet (fail)
                go_wp2_with fail
                go_quiet (fail)
                go_wp2_with fail
                go_roundw
                case rel => exact ⟨i + 1, A2, c2, ys, true, by go_num, by simp, rfl, by omega, by simp at hyl ⊢; omega, HSy, by first | exact hide (Own.below HN.out (by repeat (first | with_reducible exact Below.refl _ _ | with_reducible assumption | (with_reducible refine Below.drew ?_) | (with_reducible refine below_drewN ?_ _) | ((with_reducible refine Below.alloc ?_ ?_ _); rotate_left; (focus (first | omega | (simp; omega) | simp))) | ((with_reducible refine Below.setCell ?_ ?_ _); rotate_left; (focus (first | omega | (simp; omega) | simp))) | (refine Below.trans ?_ (Below.mono (by assumption) (by first | omega | (simp; omega) | simp)))))) | simpa using hide (Own.below HN.out (by repeat (first | with_reducible exact Below.refl _ _ | with_reducible assumption | (with_reducible refine Below.drew ?_) | (with_reducible refine below_drewN ?_ _) | ((with_reducible refine Below.alloc ?_ ?_ _); rotate_left; (focus (first | omega | (simp; omega) | simp))) | ((with_reducible refine Below.setCell ?_ ?_ _); rotate_left; (focus (first | omega | (simp; omega) | simp))) | (refine Below.trans ?_ (Below.mono (by assumption) (by first | omega | (simp; omega) | simp)))))), hide (below_drewN HBi.out _)⟩
                case measure => simp [intOf]; omega
        · have hb0 := (HBi.out.cell (p := ⟨w2.heap.size, 0, none⟩) (by simp)).trans (by simp : _ = some (Value.string nm))
          have hb1 := (HBi.out.cell (p := ⟨w2.heap.size, 1, none⟩) (by simp)).trans (by simp : _ = some (Value.int .i64 a1))
          have hb2 := (HBi.out.cell (p := ⟨w2.heap.size, 2, none⟩) (by simp)).trans (by simp : _ = some (Value.int .i64 a2))
          have hy8 : ys.length ≤ 9 := by split at hyl <;> omega
          have FIN := hide (fun W (hB : Below (w2.heap.size + 1) (w2.alloc (.cells #[.string nm, .int .i64 a1, .int .i64 a2] 77)) W) => (show Src W B b (N + 2 + 6 * (7 - (k - 1))) ∧ Below B w W ∧ w.grownBy W (some b) from by
            have hB' : Below ((w2.alloc (.cells #[.string nm, .int .i64 a1, .int .i64 a2] 77))).heap.size (w2.alloc (.cells #[.string nm, .int .i64 a1, .int .i64 a2] 77)) W := by simpa using hB
            exact ⟨(HS2.out.below (w' := (w2.alloc (.cells #[.string nm, .int .i64 a1, .int .i64 a2] 77))) ((Below.refl _ _).alloc (Nat.le_refl _) _)).below hB', (HB2.out.alloc (by omega) _).trans (hB'.mono (by simp; omega)), grown_trans (grown_alloc GK2.out _) (grown_of_below hB' _)⟩))
          cases d
          · go_wp2_with (at_builtin; refine wpList_appSwing rfl _ _ rfl (w2.heap.size + 1) rfl HN.out rfl (by omega) ?_ ?_; (focus (first | omega | (simp; omega))); intro A3 d3 w3 ho3 hk3 _hg3; have HN3 := hide (Own.mono (B' := w.heap.size) ho3 (by omega)); have HK3 := hide (FIN.out _ (HBi.out.trans hk3)); clear ho3 hk3)
            have HS3 := hide (HSy.out.push (x := ⟨nm, a1, a2⟩) hnm)
            go_roundw
            case rel => exact ⟨k - 1, A3, d3, ys ++ [(⟨nm, a1, a2⟩ : SwingR)], by go_num, by simp, by omega, by simp at hyl ⊢; omega, HS3, hide HK3.out.1, hide (by rw [List.length_append]; exact HN3.out), hide HK3.out.2.1, hide HK3.out.2.2⟩
            case measure => simp [intOf]; omega
          · have HN3 := hide (Own.mono (B' := w.heap.size) HN.out (by omega))
            have HK3 := hide (FIN.out _ HBi.out)
            go_wp2_with fail
            go_roundw
            case rel => exact ⟨k - 1, A2, c2, ys, by go_num, rfl, by omega, by simp at hyl; omega, HSy, hide HK3.out.1, HN3, hide HK3.out.2.1, hide HK3.out.2.2⟩
            case measure => simp [intOf]; omega
    · go_wp2_with fail
      refine (srcPick B b (N + 2 + 6 * (7 - k)) _ _ HS.out (by omega) (by omega)).mono ?_
      rintro e w2 ⟨r, rfl, p2, -, hS, hb, hg⟩
      have HO2 := hide (Own.kept HO.out hg (by
        cases hv : (Value.slice A xs.length c).ownBlock with
        | none => exact .inl rfl
        | some g => exact .inr fun e => by injection e with e; have := (HO.out.lt g hv).1; omega))
      have HS2 := hide (hS.more (N' := N + 50) (by omega))
      have HB2 := hide (HB.out.trans hb)
      have GK2 := hide (grown_trans GK.out hg)
      have hz2 : w.heap.size ≤ w2.heap.size := GK2.out.size
      clear hS hb hg HS HB GK HO
      by_cases hr0 : r = 0
      · subst hr0
        have hNb : some b ≠ (Value.slice A xs.length c).ownBlock := fun e => by
          have := (HO2.out.lt b e.symm).1
          omega
        have FIN := hide (fun W (hk : Below w.heap.size w2 W) (hg : w2.grownBy W (Value.slice A xs.length c).ownBlock) => (show Src W B b (N + 100) ∧ Below B w W ∧ w.grownBy W (some b) from
          ⟨(HS2.out.kept hg (hk.mono (by omega)) hNb).more (by omega), HB2.out.trans (hk.mono (by omega)), ⟨hk.os.trans GK2.out.os, hk.tape.trans GK2.out.tape, hk.output.trans GK2.out.output, Nat.le_trans GK2.out.size hk.size, fun q hq hne => (hk.block q hq).trans (GK2.out.block q hq hne)⟩⟩))
        have HS3 := hide (HSm.out.push (x := ⟨⟨#[122, 122]⟩, 0, 0⟩) (by decide))
        go_wp2_with (at_builtin; refine wpList_appSwing rfl _ _ rfl w.heap.size rfl HO2.out rfl (by omega) ?_ ?_; (focus (first | omega | (simp; omega))); intro A3 c3 w3 ho3 hk3 hg3; have HN3 := hide (Own.at2 (enc := encSwing) (sz := 3) (fun _ => rfl) (show Own encSwing 3 77 w3 w.heap.size (.slice A3 (xs ++ [(⟨⟨#[122, 122]⟩, 0, 0⟩ : SwingR)]).length c3) (xs ++ [(⟨⟨#[122, 122]⟩, 0, 0⟩ : SwingR)]) by rw [List.length_append]; exact ho3)); have HK3 := hide (FIN.out _ hk3 hg3); clear ho3 hk3 hg3)
        go_ret
        exact ⟨A3, c3, xs ++ [(⟨⟨#[122, 122]⟩, 0, 0⟩ : SwingR)], by simp, HN3.out.1, HN3.out.2, by simp; omega, HS3.out, HK3.out⟩
      · have u0 : (r == 0) = false := by simpa using hr0
        by_cases hr1 : r = 1
        · subst hr1
          have hzb : b < w2.heap.size := by omega
          go_wp2_with fail
          refine (srcamong B b (N + 50) (some ⟨w2.heap.size, 0, none⟩) _ [16, 17] _ (HS2.out.below (by repeat (first | with_reducible exact Below.refl _ _ | with_reducible assumption | (with_reducible refine Below.drew ?_) | (with_reducible refine below_drewN ?_ _) | ((with_reducible refine Below.alloc ?_ ?_ _); rotate_left; (focus (first | omega | (simp; omega) | simp))) | ((with_reducible refine Below.setCell ?_ ?_ _); rotate_left; (focus (first | omega | (simp; omega) | simp))) | (refine Below.trans ?_ (Below.mono (by assumption) (by first | omega | (simp; omega) | simp)))))) (by omega) ?_ ?_ (by decide) (by decide)).mono ?_
          · exact slat_new (enc := encI) (sz := 1) (fun _ => rfl) w2 [16, 17] #[.int .i64 16, .int .i64 17] 2 rfl
          · intro b2 off e
            injection e with e; injection e with e _; omega
          rintro e w3 ⟨n, rfl, hm, hS, hb, hg⟩
          have hn : n ≤ 17 := by
            simp only [List.mem_cons, List.not_mem_nil, or_false] at hm
            omega
          have HO3 := hide (own_made (enc := encSwing) (sz := 3) (T := 77) (B := w3.heap.size) w3 rfl (Nat.le_refl _))
          have hz3 : w.heap.size ≤ w3.heap.size := by have := hg.size; simp at this; omega
          have HS3 := hide (hS.below (w' := w3.alloc (.cells #[] 77)) ((Below.refl _ _).alloc (Nat.le_refl _) _))
          have HB3 := hide (show Below B w (w3.alloc (.cells #[] 77)) from ((HB2.out.alloc (by omega) _).trans hb).alloc (by omega) _)
          have GK3 := hide (grown_alloc (grown_trans (grown_alloc GK2.out _) hg) (.cells #[] 77))
          clear hm hS hb hg HO2 HS2 HB2 GK2 HSm
          go_wp2_with fail
          go_loopw [10, 3] (fun v o wr => ∃ (i : Nat) (A3 : Option Addr) (c3 : Nat) (ys : List SwingR), v = .int .i64 i ∧ o = .slice A3 ys.length c3 ∧ ys.length = i ∧ i ≤ 17 ∧ Hid (Small ys) ∧ Hid (Own encSwing 3 77 wr w3.heap.size (.slice A3 ys.length c3) ys) ∧ Hid (Below w3.heap.size (w3.alloc (.cells #[] 77)) wr)) (fun v _ _ => (17 - (intOf v)).toNat)
          case atStart => exact ⟨0, _, _, [], rfl, rfl, rfl, by omega, fun x hx => by simp at hx, HO3, hide (Below.refl _ _)⟩
          case round =>
            clear HO3
            obtain ⟨i, A3, c3, ys, rfl, rfl, hyl, hi, HSy, HN, HBi⟩ := hrel
            have hzi : w3.heap.size + 1 ≤ wr.heap.size := by have := HBi.out.size; simpa using this
            by_cases hlt : (i : Int) < n
            · have hcv : (Go.convert 40 9 (.slice (some ⟨wr.heap.size, 0, none⟩) 1 1)).run Try.prog (wr.alloc (.cells #[.int .u8 (97 + (i : Int))] 5)) = .ok (.string ⟨#[UInt8.ofNat (97 + i)]⟩) (wr.alloc (.cells #[.int .u8 (97 + (i : Int))] 5)) := by
                refine run_convert_bytes_back (P := Try.prog) _ _ _ 5 ⟨wr.heap.size, 0, none⟩ 1 [UInt8.ofNat (97 + i)] Try.underlying40 Try.underlying5 Try.underlying9 fun j hj => ?_
                have hj0 : j = 0 := by simpa using hj
                subst hj0
                simp [Addr.add]
                omega
              generalize UInt8.ofNat (97 + i) = d at hcv
              have hy17 : ys.length ≤ 17 := by omega
              have HSz := hide (show (⟨#[113]⟩ ++ ⟨#[d]⟩ : ByteArray).size ≤ 100 from by rw [ByteArray.size_append]; simp [ByteArray.size])
              go_wp2_with (at_builtin; go_loud (refine wpList_appSwing rfl _ _ rfl w3.heap.size rfl (Own.below HN.out (by repeat (first | with_reducible exact Below.refl _ _ | with_reducible assumption | (with_reducible refine Below.drew ?_) | (with_reducible refine below_drewN ?_ _) | ((with_reducible refine Below.alloc ?_ ?_ _); rotate_left; (focus (first | omega | (simp; omega) | simp))) | ((with_reducible refine Below.setCell ?_ ?_ _); rotate_left; (focus (first | omega | (simp; omega) | simp))) | (refine Below.trans ?_ (Below.mono (by assumption) (by first | omega | (simp; omega) | simp)))))) rfl (by omega) ?_ ?_; (focus (simp; omega)); intro A4 d4 w4 ho4 hk4 _hg4; have HN4 := hide ho4; have HK4 := hide (HBi.out.trans (Below.trans (show Below w3.heap.size wr _ from (by repeat (first | with_reducible exact Below.refl _ _ | with_reducible assumption | (with_reducible refine Below.drew ?_) | (with_reducible refine below_drewN ?_ _) | ((with_reducible refine Below.alloc ?_ ?_ _); rotate_left; (focus (first | omega | (simp; omega) | simp))) | ((with_reducible refine Below.setCell ?_ ?_ _); rotate_left; (focus (first | omega | (simp; omega) | simp))) | (refine Below.trans ?_ (Below.mono (by assumption) (by first | omega | (simp; omega) | simp)))))) hk4)); clear ho4 hk4))
              have HS4 := hide (HSy.out.push (x := ⟨⟨#[113]⟩ ++ ⟨#[d]⟩, 100, 1 + (i : Int)⟩) HSz.out)
              clear hcv
              go_wp2_with fail
              go_roundw
              case rel => exact ⟨i + 1, A4, d4, ys ++ [(⟨⟨#[113]⟩ ++ ⟨#[d]⟩, 100, 1 + (i : Int)⟩ : SwingR)], by go_num, by simp [hyl], by simp; omega, by omega, HS4, by rw [List.length_append]; exact HN4, HK4⟩
              case measure => simp [intOf]; omega
            · have FIN : Src wr B b (N + 100) ∧ Below B w wr ∧ w.grownBy wr (some b) := by
                have hb' := HBi.out
                refine ⟨?_, HB3.out.trans (hb'.mono (by omega)), ⟨hb'.os.trans GK3.out.os, hb'.tape.trans GK3.out.tape, hb'.output.trans GK3.out.output, Nat.le_trans GK3.out.size hb'.size, fun q hq hne => (hb'.block q (by omega)).trans (GK3.out.block q hq hne)⟩⟩
                exact (HS3.out.kept (row := some w3.heap.size) ⟨hb'.os, hb'.tape, hb'.output, hb'.size, fun q hq hne => hb'.block q (by
                  have h2 : q ≠ w3.heap.size := fun e => hne (by rw [e])
                  simp at hq; omega)⟩ (hb'.mono (by omega)) (by simp; omega)).more (by omega)
              have HA := hide (Own.at2 (enc := encSwing) (sz := 3) (fun _ => rfl) HN.out)
              have HF := hide FIN
              clear FIN
              go_wp2_with fail
              go_ret
              exact ⟨A3, c3, ys, by rw [hyl]; rfl, HA.out.1, (fun g o e => Nat.le_trans hz3 (HA.out.2 g o e)), by omega, HSy.out, HF.out⟩
        · have u1 : (r == 1) = false := by simpa using hr1
          have HA := hide (Own.at2 (enc := encSwing) (sz := 3) (fun _ => rfl) HO2.out)
          go_wp2_with fail
          go_ret
          exact ⟨A, c, xs, rfl, HA.out.1, HA.out.2, by omega, HSm.out, HS2.out.more (by omega), HB2.out, GK2.out⟩
end Go.Proofs.Ytjklhacffdhgaaa
