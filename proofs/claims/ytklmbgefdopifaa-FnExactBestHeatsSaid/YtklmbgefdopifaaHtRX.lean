/- The reference's answers about schedules. -/
import Derived.Test.YtklmbgefdopifaaHtV
import Derived.Test.YtklmbgefdopifaaHtP
import Derived.Deep.RegionHeld3
namespace Go.Proofs.Ytklmbgefdopifaa
open Go.RowKit

/-- A row of one-cell elements made whole. -/
theorem own_whole1 {α : Type} {enc : α → List Value} {f : α → Value} {T : TypeId} {w : World} {B g n : Nat} {xs : List α} {cur : Array Value} (he : ∀ x, enc x = [f x]) (hk : w.heap[g]? = some (.cells cur T (0, 0))) (hB : B ≤ g) (hc : cur.toList = xs.map f) (hn : n = xs.length) (hm : n ≤ maxLen) : Own enc 1 T w B (.slice (some ⟨g, 0, none⟩) n n) xs := by
  subst hn
  have hfl : ∀ l : List α, l.flatMap enc = l.map f := fun l => by
    induction l with
    | nil => rfl
    | cons a l ih => rw [List.flatMap_cons, he, ih]; rfl
  have hsz : cur.size = xs.length := by rw [← Array.length_toList, hc, List.length_map]
  exact ⟨by rw [hfl]; simp, .inr ⟨g, _, cur, rfl, hB, hk, Nat.le_refl _, hm, by omega, by rw [hfl, hc]; exact List.take_of_length_le (by simp)⟩⟩
theorem dones_nil (n : Nat) : Ht.dones n [] = List.replicate n false := by
  refine List.ext_getElem (by simp [Ht.dones]) fun i h1 h2 => ?_
  rw [Ht.dones_get, List.getElem_replicate]
  rfl
theorem made_bools (n : Nat) : (madeCells #[.bool false] n).toList = (Ht.dones n []).map Value.bool := by
  rw [dones_nil]
  refine List.ext_getElem (by simp [madeCells]) fun i h1 h2 => ?_
  simp [madeCells, Nat.mod_one]
theorem info_bool : (Try.prog.info? 4).map (fun i => (i.zero, i.size, i.bytes)) = some (some (.bool false), 1, 1) := by kernel_rfl
set_option maxRecDepth 100000 in
theorem specl17Frees (A : Option Addr) (c : Nat) (cs : List CrucR) (w : World) (h : SlAt encCruc 4 w A cs) (hn : cs.length ≤ 4) :
    Calls Try.prog 88 #[.slice A cs.length c] w fun e w' => ∃ (A1 : Option Addr) (c1 : Nat), e = .returned (.slice A1 cs.length c1) ∧ OwnI w' w.heap.size (.slice A1 cs.length c1) (Ht.frees cs []) ∧ Below w.heap.size w w' := by
  have HX := hide h
  have H0 := hide (own_made (enc := encI) (sz := 1) (T := 2) w rfl (Nat.le_refl _))
  clear h
  go_enter Try.func88, Try.ntmps88
  go_wp2_with fail
  go_loopw [4, 3] (fun v a wr => ∃ (k : Nat) (A1 : Option Addr) (c1 : Nat), v = .int .i64 k ∧ a = .slice A1 k c1 ∧ k ≤ cs.length ∧ Hid (OwnI wr w.heap.size (.slice A1 k c1) ((Ht.frees cs []).take k)) ∧ Hid (Below w.heap.size w wr)) (fun v _ _ => cs.length - (intOf v).toNat)
  case atStart => exact ⟨0, _, _, rfl, rfl, by omega, hide (by simpa using H0.out), hide (by repeat (first | with_reducible exact Below.refl _ _ | with_reducible assumption | (with_reducible refine Below.drew ?_) | (with_reducible refine below_drewN ?_ _) | ((with_reducible refine Below.alloc ?_ ?_ _); rotate_left; (focus (first | omega | (simp; omega) | simp))) | ((with_reducible refine Below.setCell ?_ ?_ _); rotate_left; (focus (first | omega | (simp; omega) | simp))) | (refine Below.trans ?_ (Below.mono (by assumption) (by first | omega | (simp; omega) | simp)))))⟩
  case round =>
    clear H0
    obtain ⟨k, A1, c1, rfl, rfl, hk, HO, HB⟩ := hrel
    have hz := HB.out.size
    by_cases hlt : k < cs.length
    · obtain ⟨b, off, rfl, hbl, hc⟩ := (HX.out.below HB.out) k hlt
      have hc3 := hc 3 _ rfl
      have hfl : k < (Ht.frees cs []).length := by rw [Ht.frees_len]; exact hlt
      have htk := List.take_succ_eq_append_getElem hfl
      have hck : Ht.ck cs k = cs[k] := by unfold Ht.ck; rw [Int.toNat_natCast, List.getD_eq_getElem?_getD, List.getElem?_eq_getElem hlt]; rfl
      rw [Ht.frees_get, hck] at htk
      have hlk : ((Ht.frees cs []).take k).length = k := by rw [List.length_take, Ht.frees_len]; omega
      generalize (Ht.frees cs []).take k = ys at *
      have HT := hide htk
      have HL := hide hlk
      have HO2 : Hid (OwnI wr w.heap.size (.slice A1 ys.length c1) ys) := hide (by rw [hlk]; exact HO.out)
      clear hc htk hck HO
      go_wp2_with (at_builtin; refine wpList_appI rfl _ _ rfl w.heap.size (by rw [HL.out]; rfl) HO2.out rfl (by omega) ?_ ?_; (focus (exact hz)); intro A2 c2 w2 ho2 hb2 _hg2; have HO3 := hide ho2; have HB3 := hide hb2; clear ho2 hb2)
      go_roundw
      case rel => exact ⟨k + 1, A2, c2, by go_num, by first | rfl | rw [HL.out], by omega, hide (by have q := HO3.out; rw [HL.out] at q; rw [HT.out]; exact q), hide (HB.out.trans HB3.out)⟩
      case measure => simp [intOf]; omega
    · obtain rfl : k = cs.length := by omega
      have HO2 : Hid (OwnI wr w.heap.size (.slice A1 cs.length c1) (Ht.frees cs [])) := hide (by
        have q := HO.out
        rw [List.take_of_length_le (by rw [Ht.frees_len]; exact Nat.le_refl _)] at q
        exact q)
      clear HO
      go_wp2_with fail
      go_ret
      exact ⟨A1, c1, rfl, HO2.out, HB.out⟩
/-- What the searching function of the reference answers. -/
def RunHX (ps : List PourR) (cs : List CrucR) (budget : Int) (first : Bool) (w : World) (e : Ending) (w' : World) : Prop :=
  ∃ (code : Int) (s : Ht.S) (p : Value), runH ps cs budget first = (code, s) ∧ e = .returned (.tuple #[p, .int .i64 code]) ∧ (∃ q, p = .pointer q) ∧ (code = 0 → ∃ (b : Nat) (w1 : World) (A : Option Addr) (n c : Nat) (A1 : Option Addr) (m c1 : Nat) (fA : Option Addr) (fc : Nat) (dA : Option Addr) (dc : Nat) (hv : Option Addr) (hc : Nat) (hs : List HeatR) (bv : Option Addr) (bc : Nat) (fs : List Int) (ds : List Bool) (le : Int), p = .pointer (some ⟨b, 0, none⟩) ∧ HtX w1 b A n c A1 m c1 fA fc dA dc first budget w' hv hc hs bv bc fs ds le s ∧ w.heap.size ≤ b) ∧ Below w.heap.size w w'
theorem htx_made {w2 W : World} {b : Nat} {A : Option Addr} {n c : Nat} {A1 : Option Addr} {m c1 : Nat} {fA : Option Addr} {fc : Nat} {dA : Option Addr} {dc : Nat} {first : Bool} {budget : Int} {fs : List Int} {ds : List Bool} (hb : b = W.heap.size) (ho : OwnI W w2.heap.size (.slice fA m fc) fs) (hd : OwnB W w2.heap.size (.slice dA n dc) ds) (hB : Below w2.heap.size w2 W) (hf : fs.length = m) (hl : ds.length = n) (u0 : 1 ≤ budget) (u1 : budget ≤ 20000) :
    HtX w2 b A n c A1 m c1 fA fc dA dc first budget (W.alloc (.cells #[.slice A n c, .slice A1 m c1, .slice fA m fc, .slice dA n dc, .slice none 0 0, .bool first, .int .i64 0, .slice none 0 0, .int .i64 0, .int .i64 0, .int .i64 budget] 92)) none 0 [] none 0 fs ds 0 ⟨budget, false, 0, []⟩ := by
  subst hb
  have hnd : Ht.nodes budget ⟨budget, false, 0, []⟩ = 0 := by simp [Ht.nodes]
  have hba := (Below.refl W.heap.size W).alloc (Nat.le_refl _) (.cells #[.slice A n c, .slice A1 m c1, .slice fA m fc, .slice dA n dc, .slice none 0 0, .bool first, .int .i64 0, .slice none 0 0, .int .i64 0, .int .i64 0, .int .i64 budget] 92)
  exact ⟨by rw [hnd]; exact heap_alloc_new W _, ho.below hba, hd.below hba, Own.nil, Own.nil, fun g e => by simp [Value.ownBlock] at e, hf, hl, ⟨by simp only; omega, by simp only; omega, by simp only; omega, by simp⟩, ⟨by simp only; omega, u1⟩, hB.trans (hba.mono hB.size), hB.size⟩
set_option maxRecDepth 100000 in
set_option maxHeartbeats 4000000 in
theorem specl17Run (A A1 : Option Addr) (c c1 : Nat) (ps : List PourR) (cs : List CrucR) (budget : Int) (first : Bool) (w : World) (h : SlAt encPour 4 w A ps) (k : SlAt encCruc 4 w A1 cs) (hn : ps.length ≤ 1048576) (hm : cs.length ≤ 1048576) (hs : ∀ x ∈ ps, x.nm.size ≤ maxLen) (ht : ∀ x ∈ cs, x.nm.size ≤ maxLen) :
    Calls Try.prog 54 #[.slice A ps.length c, .slice A1 cs.length c1, .int .i64 budget, .bool first] w (RunHX ps cs budget first w) := by
  have HX := hide h
  have HY := hide k
  have HS := hide hs
  have HT := hide ht
  clear h k hs ht
  cases hr : rowsB vPourR PourR.nm 12 ps
  · have e := hide (runH_1 (cs := cs) (budget := budget) (first := first) hr)
    go_enter Try.func54, Try.ntmps54
    go_wp2_with fail
    refine (specl17Pours A c ps _ HX.out hn HS.out).mono ?_
    rintro e w1 ⟨rfl, hb1⟩
    obtain ⟨fcb1, ffb1, fzb1⟩ := bfacts hb1 (by first | exact Nat.le_refl _ | omega | (simp; omega) | simp); have fsb1 := hb1.size; try simp at fcb1 ffb1 fzb1 fsb1 hb1
    go_wp2_with fail
    go_ret2
    exact ⟨1, _, _, e.out, rfl, ⟨_, rfl⟩, fun q => by simp at q, (by repeat (first | with_reducible exact Below.refl _ _ | with_reducible assumption | (with_reducible refine Below.drew ?_) | (with_reducible refine below_drewN ?_ _) | ((with_reducible refine Below.alloc ?_ ?_ _); rotate_left; (focus (first | omega | (simp; omega) | simp))) | ((with_reducible refine Below.setCell ?_ ?_ _); rotate_left; (focus (first | omega | (simp; omega) | simp))) | (refine Below.trans ?_ (Below.mono (by assumption) (by first | omega | (simp; omega) | simp)))))⟩
  · have hcv : ∀ W : World, SlAt encCruc 4 W A1 cs → Calls Try.prog 87 #[.slice A1 cs.length c1] W fun e w' => e = .returned (.bool (okC cs)) ∧ Below W.heap.size W w' := fun W g => specl17Crucibles A1 c1 cs W g hm HT.out
    have HCV := hide hcv
    clear hcv
    cases hd : okC cs
    · have e := hide (runH_2 (ps := ps) (budget := budget) (first := first) hd)
      go_enter Try.func54, Try.ntmps54
      go_wp2_with fail
      refine (specl17Pours A c ps _ HX.out hn HS.out).mono ?_
      rintro e w1 ⟨rfl, hb1⟩
      obtain ⟨fcb1, ffb1, fzb1⟩ := bfacts hb1 (by first | exact Nat.le_refl _ | omega | (simp; omega) | simp); have fsb1 := hb1.size; try simp at fcb1 ffb1 fzb1 fsb1 hb1
      go_wp2_with fail
      refine (HCV.out _ (HY.out.below hb1)).mono ?_
      rintro e2 w2 ⟨rfl, hb2⟩
      rw [hd]
      have HB2 := hide (hb1.trans (hb2.mono hb1.size))
      clear hb1 hb2
      go_wp2_with fail
      go_ret2
      exact ⟨1, _, _, e.out, rfl, ⟨_, rfl⟩, fun q => by simp at q, HB2.out⟩
    · cases hb : inB budget 1 20000
      · have e := hide (runH_3 (first := first) hr hd hb)
        go_enter Try.func54, Try.ntmps54
        go_wp2_with fail
        refine (specl17Pours A c ps _ HX.out hn HS.out).mono ?_
        rintro e w1 ⟨rfl, hb1⟩
        obtain ⟨fcb1, ffb1, fzb1⟩ := bfacts hb1 (by first | exact Nat.le_refl _ | omega | (simp; omega) | simp); have fsb1 := hb1.size; try simp at fcb1 ffb1 fzb1 fsb1 hb1
        go_wp2_with fail
        refine (HCV.out _ (HY.out.below hb1)).mono ?_
        rintro e2 w2 ⟨rfl, hb2⟩
        rw [hd]
        have HB2 := hide (hb1.trans (hb2.mono hb1.size))
        clear hb1 hb2
        go_wp2_with fail
        refine (specl00In_any _ _ _ _).mono ?_; rintro e2 w3 ⟨rfl, rfl⟩
        go_wp2_with fail
        go_ret2
        exact ⟨2, _, _, e.out, rfl, ⟨_, rfl⟩, fun q => by simp at q, HB2.out⟩
      · have E4 := hide (fun q => runH_4 (first := first) hr hd hb q)
        have E5 := hide (fun q => runH_5 (first := first) hr hd hb q)
        obtain ⟨rv, rl⟩ := rowsB_okH hr
        obtain ⟨cv, cl, -⟩ := okC_true hd
        have HV := hide rv
        have HW := hide cv
        obtain ⟨u0, u1⟩ := inB_true hb
        clear rv cv
        go_enter Try.func54, Try.ntmps54
        go_wp2_with fail
        refine (specl17Pours A c ps _ HX.out hn HS.out).mono ?_
        rintro e w1 ⟨rfl, hb1⟩
        obtain ⟨fcb1, ffb1, fzb1⟩ := bfacts hb1 (by first | exact Nat.le_refl _ | omega | (simp; omega) | simp); have fsb1 := hb1.size; try simp at fcb1 ffb1 fzb1 fsb1 hb1
        go_wp2_with fail
        refine (HCV.out _ (HY.out.below hb1)).mono ?_
        rintro e2 w2 ⟨rfl, hb2⟩
        rw [hd]
        have HB2 := hide (hb1.trans (hb2.mono hb1.size))
        clear hb1 hb2 HCV
        go_wp2_with fail
        refine (specl00In_any _ _ _ _).mono ?_; rintro e2 w3 ⟨rfl, rfl⟩
        have HX2 := hide (HX.out.below HB2.out)
        have HY2 := hide (HY.out.below HB2.out)
        clear hr hd
        obtain ⟨i0, hi, hz0, hz1, hz2⟩ := info_parts info_bool
        have hmk := fun W => run_make_rowN (P := Try.prog) 90 4 i0 _ Try.underlying90 hi hz0 .i64 .i64 ps.length ps.length (Nat.le_refl _) (by rw [hz2]; omega) (by omega) W
        rw [hz1] at hmk
        have hbs := made_bools ps.length
        have hcells : (madeCells (Value.bool false).cells (ps.length * 1)) = madeCells #[.bool false] ps.length := by rw [Nat.mul_one]; rfl
        rw [hcells] at hmk
        generalize madeCells #[.bool false] ps.length = cur at *
        have HBS := hide hbs
        clear hi hz0 hz1 hz2 hbs hcells
        go_upto_region 5 with fail
        go_cut [10] (fun v wx => ∃ (b : Nat) (fA : Option Addr) (fc : Nat) (dA : Option Addr) (dc : Nat), v = .pointer (some ⟨b, 0, none⟩) ∧ Hid (HtX w2 b A ps.length c A1 cs.length c1 fA fc dA dc first budget wx none 0 [] none 0 (Ht.frees cs []) (Ht.dones ps.length []) 0 ⟨budget, false, 0, []⟩))
        case first =>
          clear hb
          go_region_held3 (fun W' => Below w2.heap.size w2 W') (exact (by repeat (first | with_reducible exact Below.refl _ _ | with_reducible assumption | (with_reducible refine Below.drew ?_) | (with_reducible refine below_drewN ?_ _) | ((with_reducible refine Below.alloc ?_ ?_ _); rotate_left; (focus (first | omega | (simp; omega) | simp))) | ((with_reducible refine Below.setCell ?_ ?_ _); rotate_left; (focus (first | omega | (simp; omega) | simp))) | (refine Below.trans ?_ (Below.mono (by assumption) (by first | omega | (simp; omega) | simp))))))
            (first | (go_at_call 88; refine (specl17Frees A1 c1 cs _ ?_ cl).mono ?_; (focus (exact HY2.out.below (by assumption))); rintro e wF ⟨fA, fc, rfl, hOF, hbF⟩; have hbW : Below w2.heap.size w2 wF := Below.trans (show Below w2.heap.size w2 _ from (by repeat (first | with_reducible exact Below.refl _ _ | with_reducible assumption | (with_reducible refine Below.drew ?_) | (with_reducible refine below_drewN ?_ _) | ((with_reducible refine Below.alloc ?_ ?_ _); rotate_left; (focus (first | omega | (simp; omega) | simp))) | ((with_reducible refine Below.setCell ?_ ?_ _); rotate_left; (focus (first | omega | (simp; omega) | simp))) | (refine Below.trans ?_ (Below.mono (by assumption) (by first | omega | (simp; omega) | simp)))))) (hbF.mono (by first | exact Nat.le_refl _ | (simp; done) | omega | (simp; omega))); have hzW := hbW.size; have hO2 : OwnI wF w2.heap.size _ _ := hOF.mono (by first | exact Nat.le_refl _ | (simp; done) | omega | (simp; omega)); (try (have QD := (hbF.block w2.heap.size (by simp)).trans (heap_alloc_new w2 (.cells cur 4)))); obtain ⟨fcbF, ffbF, fzbF⟩ := bfacts hbF (by first | exact Nat.le_refl _ | omega | (simp; omega) | simp); have fsbF := hbF.size; try simp at fcbF ffbF fzbF fsbF hbF))
          all_goals
            go_wp2_with fail
            go_meet
            first
              | exact ⟨_, _, _, _, _, rfl, hide (htx_made (w2 := w2) (W := wF.alloc (.cells cur 4)) (by simp) (hO2.below (by repeat (first | with_reducible exact Below.refl _ _ | with_reducible assumption | (with_reducible refine Below.drew ?_) | (with_reducible refine below_drewN ?_ _) | ((with_reducible refine Below.alloc ?_ ?_ _); rotate_left; (focus (first | omega | (simp; omega) | simp))) | ((with_reducible refine Below.setCell ?_ ?_ _); rotate_left; (focus (first | omega | (simp; omega) | simp))) | (refine Below.trans ?_ (Below.mono (by assumption) (by first | omega | (simp; omega) | simp)))))) (own_whole1 (f := Value.bool) (fun _ => rfl) (heap_alloc_new _ _) (by omega) HBS.out (by rw [Ht.dones_len]) (by unfold maxLen; omega)) (by repeat (first | with_reducible exact Below.refl _ _ | with_reducible assumption | (with_reducible refine Below.drew ?_) | (with_reducible refine below_drewN ?_ _) | ((with_reducible refine Below.alloc ?_ ?_ _); rotate_left; (focus (first | omega | (simp; omega) | simp))) | ((with_reducible refine Below.setCell ?_ ?_ _); rotate_left; (focus (first | omega | (simp; omega) | simp))) | (refine Below.trans ?_ (Below.mono (by assumption) (by first | omega | (simp; omega) | simp))))) Ht.frees_len Ht.dones_len u0 u1)⟩
              | exact ⟨_, _, _, _, _, rfl, hide (htx_made (w2 := w2) (W := wF) rfl hO2 (own_whole1 (f := Value.bool) (fun _ => rfl) QD (Nat.le_refl _) HBS.out (by rw [Ht.dones_len]) (by unfold maxLen; omega)) hbW Ht.frees_len Ht.dones_len u0 u1)⟩
        case rest =>
          obtain ⟨b, fA, fc, dA, dc, rfl, HS3⟩ := hcut
          obtain ⟨w3, rfl⟩ : ∃ w3, w3 = wc := ⟨_, rfl⟩
          clear HBS hmk
          go_wp2_with fail
          refine (hvisit_any w2 b A c ps A1 c1 cs fA fc dA dc first budget HX2 HY2 HV HW rl cl (ps.length + 1) [] ⟨budget, false, 0, []⟩ _ none 0 none 0 (by simp) HS3 (hide (by intro i hi; simp at hi)) (by simp) (hide (by simp [Ht.ended]))).mono ?_
          rintro e w4 ⟨s4, hv4, hc4, bv4, bc4, rfl, hs4, hS4⟩
          have hs4' : lastH ps cs budget first = s4 := hs4
          subst hs4'
          have HS4 := hide hS4
          have HB4 := hide (HB2.out.trans (HS4.out.bel.mono HB2.out.size))
          have hz2 := HB2.out.size
          have hst := HS4.out.st
          have hbz := HS4.out.hb
          obtain ⟨i0, -⟩ := HS4.out.inv
          clear hs4 hS4 HS3 hb
          cases hsp : (lastH ps cs budget first).spent
          · have g9 : w4.cell? ⟨b, 9, none⟩ = some (.int .i64 (budget - (lastH ps cs budget first).left)) := by simp [World.cell?, hst, Ht.nodes, hsp]
            have hgt : decide (budget < budget - (lastH ps cs budget first).left) = false := by simp; omega
            have e := hide (E5.out hsp)
            clear hst hsp
            go_wp2_with fail
            go_ret2
            exact ⟨0, _, _, e.out, rfl, ⟨_, rfl⟩, fun _ => ⟨b, w2, A, _, c, A1, _, c1, fA, fc, dA, dc, hv4, hc4, _, bv4, bc4, _, _, _, rfl, HS4.out, by omega⟩, HB4.out⟩
          · have g9 : w4.cell? ⟨b, 9, none⟩ = some (.int .i64 (budget + 1)) := by simp [World.cell?, hst, Ht.nodes, hsp]
            have hgt : decide (budget < budget + 1) = true := by simp; omega
            have e := hide (E4.out hsp)
            clear hst hsp
            go_wp2_with fail
            go_ret2
            exact ⟨5, _, _, e.out, rfl, ⟨_, rfl⟩, fun q => by simp at q, HB4.out⟩
set_option maxRecDepth 100000 in
theorem specl17Found {ps : List PourR} {cs : List CrucR} {budget : Int} {first : Bool} {w0 : World} (w : World) {code : Int} {s : Ht.S} {p : Value} (hrun : runH ps cs budget first = (code, s))
    (hp : code = 0 → ∃ (b : Nat) (w1 : World) (A : Option Addr) (n c : Nat) (A1 : Option Addr) (m c1 : Nat) (fA : Option Addr) (fc : Nat) (dA : Option Addr) (dc : Nat) (hv : Option Addr) (hc : Nat) (hs : List HeatR) (bv : Option Addr) (bc : Nat) (fs : List Int) (ds : List Bool) (le : Int), p = .pointer (some ⟨b, 0, none⟩) ∧ HtX w1 b A n c A1 m c1 fA fc dA dc first budget w hv hc hs bv bc fs ds le s ∧ w0.heap.size ≤ b) (hpn : ∃ q, p = .pointer q) :
    Calls Try.prog 60 #[p, .int .i64 code] w (SlResH encHeat 4 110 (fun ys code => bestH ps cs budget first = (ys, code)) w) := by
  have HRUN := hide hrun
  have HP := hide hp
  clear hp hrun
  by_cases h0 : code = 0
  · subst h0
    obtain ⟨b, w2, A2, n2, c2, A3, m3, c3, fA, fc, dA, dc, hv, hc, hs, bv, bc, fs, ds, le, rfl, hS, hbz⟩ := HP.out rfl
    have hlen := hS.inv.2.2.2
    have hst := hS.st
    have hbl := hS.lt
    have g6 : w.cell? ⟨b, 6, none⟩ = some (.int .i64 s.count) := by simp [World.cell?, hst]
    have g7 : w.cell? ⟨b, 7, none⟩ = some (.slice bv s.best.length bc) := by simp [World.cell?, hst]
    have HO := hide hS.ob
    clear hst hS HP hpn
    by_cases hc : s.count = 0
    · have e := hide (show bestH ps cs budget first = ([], 3) from by unfold bestH; rw [HRUN.out]; simp [hc])
      rw [hc] at g6
      clear hc
      go_enter Try.func60, Try.ntmps60
      go_wp2_with fail
      go_ret2
      exact slResH_nil e.out (Below.refl _ _)
    · have hc1 : (s.count == 0) = false := by simpa using hc
      have e := hide (show bestH ps cs budget first = (s.best, 0) from by unfold bestH; rw [HRUN.out]; simp [hc])
      have H := hide (HO.out.below (w' := w.alloc (.cells #[] 110)) ((Below.refl _ _).alloc (Nat.le_refl _) _))
      have H0 := hide (own_made (enc := encHeat) (sz := 4) (T := 110) w rfl (Nat.le_refl _))
      clear hc
      generalize s.best = ys at *
      go_enter Try.func60, Try.ntmps60
      go_wp2_with (at_builtin; refine wpList_appHs (xs := []) rfl _ _ rfl w.heap.size (b + 1) rfl H0.out rfl H.out (by simp; omega) (by simp) ?_; intro A3 c3 w3 ho3 hb3 _hg3; have HO3 := hide ho3; have HB3 := hide (Below.trans ((Below.refl w.heap.size w).alloc (Nat.le_refl _) (.cells #[] 110)) hb3); clear ho3 hb3)
      go_ret2
      exact ⟨A3, c3, ys, 0, by simp, e.out, by omega, by simpa using HO3.out, HB3.out⟩
  · obtain ⟨q, rfl⟩ := hpn
    have e := hide (show bestH ps cs budget first = ([], code) from by unfold bestH; rw [HRUN.out]; simp [h0])
    have h1 : (code == 0) = false := by simpa using h0
    clear HP h0
    go_enter Try.func60, Try.ntmps60
    go_wp2_with fail
    go_ret2
    exact slResH_nil e.out (Below.refl _ _)
set_option maxRecDepth 100000 in
theorem specFirstHeats (A A1 : Option Addr) (c c1 : Nat) (ps : List PourR) (cs : List CrucR) (budget : Int) (w : World) (h : SlAt encPour 4 w A ps) (k : SlAt encCruc 4 w A1 cs) (hn : ps.length ≤ 1048576) (hm : cs.length ≤ 1048576) (hs : ∀ x ∈ ps, x.nm.size ≤ maxLen) (ht : ∀ x ∈ cs, x.nm.size ≤ maxLen) :
    Calls Try.prog 31 #[.slice A ps.length c, .slice A1 cs.length c1, .int .i64 budget] w (SlResH encHeat 4 110 (fun ys code => bestH ps cs budget true = (ys, code)) w) := by
  have hrun := specl17Run A A1 c c1 ps cs budget true w h k hn hm hs ht
  have HR := hide hrun
  clear h k hs ht hrun
  go_enter Try.func31, Try.ntmps31
  go_wp2_with fail
  refine HR.out.mono ?_
  rintro e w1 ⟨code, s, p, hrun, rfl, hpn, hp, hb1⟩
  have HB := hide hb1
  have hf := specl17Found (w0 := w) w1 hrun hp hpn
  have HF := hide hf
  clear hb1 hrun hp hpn hf HR
  go_wp2_with fail
  refine HF.out.mono ?_
  rintro e w2 ⟨A2, c2, ys, code2, rfl, hr, hl, ho, hb2⟩
  have HO := hide (ho.mono (B' := w.heap.size) HB.out.size)
  have HB2 := hide (HB.out.trans (hb2.mono HB.out.size))
  have HE := hide hr
  clear ho hb2 hr
  go_wp2_with fail
  go_ret2
  exact ⟨A2, c2, ys, code2, rfl, HE.out, hl, HO.out, HB2.out⟩
set_option maxRecDepth 100000 in
theorem specBestHeats (A A1 : Option Addr) (c c1 : Nat) (ps : List PourR) (cs : List CrucR) (budget : Int) (w : World) (h : SlAt encPour 4 w A ps) (k : SlAt encCruc 4 w A1 cs) (hn : ps.length ≤ 1048576) (hm : cs.length ≤ 1048576) (hs : ∀ x ∈ ps, x.nm.size ≤ maxLen) (ht : ∀ x ∈ cs, x.nm.size ≤ maxLen) :
    Calls Try.prog 24 #[.slice A ps.length c, .slice A1 cs.length c1, .int .i64 budget] w (SlResH encHeat 4 110 (fun ys code => bestH ps cs budget false = (ys, code)) w) := by
  have hrun := specl17Run A A1 c c1 ps cs budget false w h k hn hm hs ht
  have HR := hide hrun
  clear h k hs ht hrun
  go_enter Try.func24, Try.ntmps24
  go_wp2_with fail
  refine HR.out.mono ?_
  rintro e w1 ⟨code, s, p, hrun, rfl, hpn, hp, hb1⟩
  have HB := hide hb1
  have hf := specl17Found (w0 := w) w1 hrun hp hpn
  have HF := hide hf
  clear hb1 hrun hp hpn hf HR
  go_wp2_with fail
  refine HF.out.mono ?_
  rintro e w2 ⟨A2, c2, ys, code2, rfl, hr, hl, ho, hb2⟩
  have HO := hide (ho.mono (B' := w.heap.size) HB.out.size)
  have HB2 := hide (HB.out.trans (hb2.mono HB.out.size))
  have HE := hide hr
  clear ho hb2 hr
  go_wp2_with fail
  go_ret2
  exact ⟨A2, c2, ys, code2, rfl, HE.out, hl, HO.out, HB2.out⟩
set_option maxRecDepth 100000 in
theorem specCountSchedules (A A1 : Option Addr) (c c1 : Nat) (ps : List PourR) (cs : List CrucR) (budget : Int) (w : World) (h : SlAt encPour 4 w A ps) (k : SlAt encCruc 4 w A1 cs) (hn : ps.length ≤ 1048576) (hm : cs.length ≤ 1048576) (hs : ∀ x ∈ ps, x.nm.size ≤ maxLen) (ht : ∀ x ∈ cs, x.nm.size ≤ maxLen) :
    Calls Try.prog 18 #[.slice A ps.length c, .slice A1 cs.length c1, .int .i64 budget] w fun e w' => e = .returned (two (cntH ps cs budget)) ∧ Below w.heap.size w w' := by
  have hrun := specl17Run A A1 c c1 ps cs budget false w h k hn hm hs ht
  have HR := hide hrun
  clear h k hs ht hrun
  go_enter Try.func18, Try.ntmps18
  go_wp2_with fail
  refine HR.out.mono ?_
  rintro e w1 ⟨code, s, p, hrun, rfl, -, hp, hb1⟩
  have HB := hide hb1
  have HRUN := hide hrun
  have HP := hide hp
  clear hb1 hrun hp HR
  by_cases h0 : code = 0
  · subst h0
    obtain ⟨b, w2, A2, n2, c2, A3, m3, c3, fA, fc, dA, dc, hv, hc, hs, bv, bc, fs, ds, le, rfl, hS, hbz⟩ := HP.out rfl
    have hst := hS.st
    have g6 : w1.cell? ⟨b, 6, none⟩ = some (.int .i64 s.count) := by simp [World.cell?, hst]
    have e := hide (show cntH ps cs budget = (s.count, 0) from by unfold cntH; rw [HRUN.out]; simp)
    clear hst hS HP
    go_wp2_with fail
    go_ret2
    exact ⟨ret_twoH e.out, HB.out⟩
  · have e := hide (show cntH ps cs budget = (0, code) from by unfold cntH; rw [HRUN.out]; simp [h0])
    have h1 : (code == 0) = false := by simpa using h0
    clear HP h0
    go_wp2_with fail
    go_ret2
    exact ⟨ret_twoH e.out, HB.out⟩
end Go.Proofs.Ytklmbgefdopifaa
