/- The program's greatest force: what it answers. -/
import Derived.Test.YtjklhacffdhgaaaPuJ
import Derived.Test.YtjklhacffdhgaaaRows2
import Derived.Deep.RegionHeld3
namespace Go.Proofs.Ytjklhacffdhgaaa
open Go.RowKit

theorem pull_any (w0 : World) (b : Nat) (fA : Option Addr) (fc : Nat) (aA : Option Addr) (ac : Nat) (lim : Int) (fs am : List Int) (HF : Hid (SlAt encI 1 w0 fA fs)) (HA : Hid (SlAt encI 1 w0 aA am)) (HFN : Hid (∀ g o, fA = some ⟨g, o, none⟩ → g ≠ b)) (HAN : Hid (∀ g o, aA = some ⟨g, o, none⟩ → g ≠ b)) (hal : am.length = fs.length)
    (HFV : Hid (∀ x ∈ fs, 0 ≤ x ∧ x ≤ 1000000)) (HAV : Hid (∀ x ∈ am, 0 ≤ x ∧ x ≤ 1000000000000)) (hn : fs.length ≤ 16) (hfc : fs.length ≤ fc) (hfc2 : fc ≤ 9223372036854775807) (hl0 : lim ≤ 100000) (f : Nat) : PullOK w0 b fA fc aA ac lim fs am f := by
  induction f with
  | zero => intro k taken force sway s w tv tc bv bc h1 h2; omega
  | succ f ih =>
    intro k taken force sway s w tv tc bv bc h1 h2 h3 h4 h5 h6 h7 HS
    by_cases hk : k = fs.length
    · subst hk
      exact pull_last w0 b fA fc aA ac lim fs am hn f taken force sway s w tv tc bv bc h3 h4 (by omega) HS
    · obtain ⟨left, spent, most, best⟩ := s
      exact pull_goes w0 b fA fc aA ac lim fs am HF HA HFN HAN hal HFV HAV hn hfc hfc2 hl0 f ih k (by omega) h1 taken h3 force sway h4 h5 h6 h7 left spent most best w tv tc bv bc HS
/-- The forces of swings. -/
def frcs (xs : List SwingR) : List Int := xs.map fun x => x.force
/-- What the search for the greatest force finds. -/
def lastP (sw dp sf lim : Int) (xs : List SwingR) (bud : Int) : Pu.S := Pu.pull (frcs xs) (amps sw dp sf xs) lim (xs.length + 1) 0 [] 0 0 ⟨bud, false, -1, []⟩
/-- The greatest force with its choice, and a code. -/
@[irreducible] noncomputable def frcR (nm : ByteArray) (sw dp sf lim : Int) (xs : List SwingR) (bud : Int) : List Int × Int × Int :=
  if vTower nm sw dp sf lim && rowsB vSwingR SwingR.nm 16 xs then (if inB bud 1 20000 then (if (lastP sw dp sf lim xs bud).spent then ([], 0, 5) else ((lastP sw dp sf lim xs bud).best, (lastP sw dp sf lim xs bud).most, 0)) else ([], 0, 2)) else ([], 0, 1)
section
variable {nm : ByteArray} {sw dp sf lim bud : Int} {xs : List SwingR}
theorem frcR_1 (h : vTower nm sw dp sf lim = false) : frcR nm sw dp sf lim xs bud = ([], 0, 1) := by unfold frcR; simp [h]
theorem frcR_2 (h : rowsB vSwingR SwingR.nm 16 xs = false) : frcR nm sw dp sf lim xs bud = ([], 0, 1) := by unfold frcR; simp [h]
theorem frcR_3 (h : vTower nm sw dp sf lim = true) (h2 : rowsB vSwingR SwingR.nm 16 xs = true) (h3 : inB bud 1 20000 = false) : frcR nm sw dp sf lim xs bud = ([], 0, 2) := by unfold frcR; simp [h, h2, h3]
theorem frcR_4 (h : vTower nm sw dp sf lim = true) (h2 : rowsB vSwingR SwingR.nm 16 xs = true) (h3 : inB bud 1 20000 = true) : frcR nm sw dp sf lim xs bud = if (lastP sw dp sf lim xs bud).spent then ([], 0, 5) else ((lastP sw dp sf lim xs bud).best, (lastP sw dp sf lim xs bud).most, 0) := by unfold frcR; simp [h, h2, h3]
end
theorem frcs_take {xs : List SwingR} {k : Nat} (h : k < xs.length) : frcs (xs.take (k + 1)) = frcs (xs.take k) ++ [xs[k].force] := by
  unfold frcs
  rw [List.take_succ_eq_append_getElem h, List.map_append]
  rfl
/-- A slice of numbers with a number and a code as a result. -/
def SlRes3 (P : List Int → Int → Int → Prop) (w : World) (e : Ending) (w' : World) : Prop :=
  ∃ (A : Option Addr) (c : Nat) (xs : List Int) (v code : Int), e = .returned (.tuple #[.slice A xs.length c, .int .i64 v, .int .i64 code]) ∧ P xs v code ∧ xs.length ≤ 1048576 ∧ OwnI w' w.heap.size (.slice A xs.length c) xs ∧ Below w.heap.size w w'
theorem slRes3_nil {P : List Int → Int → Int → Prop} {w w' : World} {code : Int} (h : P [] 0 code) (hb : Below w.heap.size w w') : SlRes3 P w (.returned (.tuple #[.slice none 0 0, .int .i64 0, .int .i64 code])) w' :=
  ⟨none, 0, [], 0, code, rfl, h, by simp, Own.nil, hb⟩
/-- The struct while the forces are gathered. -/
structure PuL (wb : World) (b : Nat) (aA : Option Addr) (ac : Nat) (bud lim : Int) (am : List Int) (w : World) (fA : Option Addr) (fc : Nat) (l : List Int) : Prop where
  st : w.heap[b]? = some (.cells #[.int .i64 bud, .bool false, .slice fA l.length fc, .slice aA am.length ac, .int .i64 lim, .slice none 0 0, .slice none 0 0, .int .i64 (-1)] 166 (0, 0))
  of : OwnI w (b + 1) (.slice fA l.length fc) l
  oa : OwnI w wb.heap.size (.slice aA am.length ac) am
  an : (Value.slice aA am.length ac).ownBlock ≠ some b
  ao : ∀ g, (Value.slice aA am.length ac).ownBlock = some g → g < b
  bel : Below wb.heap.size wb w
  hb : wb.heap.size ≤ b
section
variable {wb : World} {b : Nat} {aA : Option Addr} {ac : Nat} {bud lim : Int} {am : List Int} {w : World} {fA : Option Addr} {fc : Nat} {l : List Int}
theorem PuL.lt (h : PuL wb b aA ac bud lim am w fA fc l) : b < w.heap.size := heap_lt h.st
theorem PuL.below {w' : World} (h : PuL wb b aA ac bud lim am w fA fc l) (hb : Below w.heap.size w w') : PuL wb b aA ac bud lim am w' fA fc l :=
  ⟨(hb.block b h.lt).trans h.st, h.of.below hb, h.oa.below hb, h.an, h.ao, h.bel.trans (hb.mono h.bel.size), h.hb⟩
theorem PuL.push {w' : World} {A' : Option Addr} {c' : Nat} {y : Int} (h : PuL wb b aA ac bud lim am w fA fc l) (ho : OwnI w' (b + 1) (.slice A' (l.length + 1) c') (l ++ [y])) (hb : Below (b + 1) w w') (hg : w.grownBy w' (Value.slice fA l.length fc).ownBlock) : PuL wb b aA ac bud lim am (w'.setCell ⟨b, 2, none⟩ (.slice A' (l.length + 1) c')) A' c' (l ++ [y]) := by
  have hg2 := grown_set (grown_refl w' (some b)) 2 (.slice A' (l.length + 1) c')
  have hl : (l ++ [y]).length = l.length + 1 := by simp
  have hst : w'.heap[b]? = _ := (hb.block b (by omega)).trans h.st
  have hoa : OwnI w' wb.heap.size (.slice aA am.length ac) am := h.oa.kept hg (by
    cases e : (Value.slice aA am.length ac).ownBlock with
    | none => exact .inl rfl
    | some g => exact .inr fun q => by have := (h.of.lt g q.symm).1; have := h.ao g e; omega)
  refine ⟨?_, ?_, hoa.kept hg2 (.inr h.an), h.an, h.ao, (h.bel.trans (hb.mono (by have := h.hb; omega))).setCell h.hb _, h.hb⟩
  · rw [hl]; exact heap_set' _ hst
  · rw [hl]; exact own_far' ho hg2
end
set_option maxRecDepth 100000 in
set_option maxHeartbeats 2000000 in
theorem implGreatestForce (nm : ByteArray) (sw dp sf lim : Int) (A : Option Addr) (c : Nat) (xs : List SwingR) (bud : Int) (w : World) (hs : nm.size ≤ maxLen) (h : SlAt encSwing 3 w A xs) (hn : xs.length ≤ 1048576) (hx : ∀ x ∈ xs, x.nm.size ≤ maxLen) :
    Calls Try.prog 39 #[.agg #[.string nm, .int .i64 sw, .int .i64 dp, .int .i64 sf, .int .i64 lim], .slice A xs.length c, .int .i64 bud] w (SlRes3 (fun ys v code => frcR nm sw dp sf lim xs bud = (ys, v, code)) w) := by
  have HX := hide (h.below ((Below.refl _ _).alloc (Nat.le_refl _) (.cells #[.string nm, .int .i64 sw, .int .i64 dp, .int .i64 sf, .int .i64 lim] 56)))
  have HS := hide hx
  clear h hx
  cases hv : vTower nm sw dp sf lim
  · have e : Hid (frcR nm sw dp sf lim xs bud = ([], 0, 1)) := frcR_1 hv
    go_enter Try.func39, Try.ntmps39
    go_wp2_with fail
    refine (implValidTower nm sw dp sf lim _ hs).mono ?_
    rintro e w1 ⟨rfl, hb1⟩
    obtain ⟨fcb1, ffb1, fzb1⟩ := bfacts hb1 (by first | exact Nat.le_refl _ | omega | (simp; omega) | simp); have fsb1 := hb1.size; try simp at fcb1 ffb1 fzb1 fsb1 hb1
    go_wp2_with fail
    go_ret3
    exact slRes3_nil e.out (by repeat (first | with_reducible exact Below.refl _ _ | with_reducible assumption | (with_reducible refine Below.drew ?_) | (with_reducible refine below_drewN ?_ _) | ((with_reducible refine Below.alloc ?_ ?_ _); rotate_left; (focus (first | omega | (simp; omega) | simp))) | ((with_reducible refine Below.setCell ?_ ?_ _); rotate_left; (focus (first | omega | (simp; omega) | simp))) | (refine Below.trans ?_ (Below.mono (by assumption) (by first | omega | (simp; omega) | simp)))))
  · cases hr : rowsB vSwingR SwingR.nm 16 xs
    · have e : Hid (frcR nm sw dp sf lim xs bud = ([], 0, 1)) := frcR_2 hr
      go_enter Try.func39, Try.ntmps39
      go_wp2_with fail
      refine (implValidTower nm sw dp sf lim _ hs).mono ?_
      rintro e w1 ⟨rfl, hb1⟩
      obtain ⟨fcb1, ffb1, fzb1⟩ := bfacts hb1 (by first | exact Nat.le_refl _ | omega | (simp; omega) | simp); have fsb1 := hb1.size; try simp at fcb1 ffb1 fzb1 fsb1 hb1
      have HX1 := hide (HX.out.below (by simpa using hb1))
      go_wp2_with fail
      refine (implValidSwings A c xs _ HX1.out hn HS.out).mono ?_
      rintro e w2 ⟨rfl, hb2⟩
      have hbn := Below.trans (by first | exact hb1 | exact below_drewN hb1 _) (Below.mono hb2 (by first | omega | (simp; omega) | simp))
      clear hb2 fcb1 ffb1 fzb1 fsb1
      clear hb1
      have hb2 := hbn
      clear hbn
      obtain ⟨fcb2, ffb2, fzb2⟩ := bfacts hb2 (by first | exact Nat.le_refl _ | omega | (simp; omega) | simp); have fsb2 := hb2.size; try simp at fcb2 ffb2 fzb2 fsb2 hb2
      go_wp2_with fail
      go_ret3
      exact slRes3_nil e.out (by repeat (first | with_reducible exact Below.refl _ _ | with_reducible assumption | (with_reducible refine Below.drew ?_) | (with_reducible refine below_drewN ?_ _) | ((with_reducible refine Below.alloc ?_ ?_ _); rotate_left; (focus (first | omega | (simp; omega) | simp))) | ((with_reducible refine Below.setCell ?_ ?_ _); rotate_left; (focus (first | omega | (simp; omega) | simp))) | (refine Below.trans ?_ (Below.mono (by assumption) (by first | omega | (simp; omega) | simp)))))
    · cases hbg : inB bud 1 20000
      · have e : Hid (frcR nm sw dp sf lim xs bud = ([], 0, 2)) := frcR_3 hv hr hbg
        go_enter Try.func39, Try.ntmps39
        go_wp2_with fail
        refine (implValidTower nm sw dp sf lim _ hs).mono ?_
        rintro e w1 ⟨rfl, hb1⟩
        obtain ⟨fcb1, ffb1, fzb1⟩ := bfacts hb1 (by first | exact Nat.le_refl _ | omega | (simp; omega) | simp); have fsb1 := hb1.size; try simp at fcb1 ffb1 fzb1 fsb1 hb1
        have HX1 := hide (HX.out.below (by simpa using hb1))
        go_wp2_with fail
        refine (implValidSwings A c xs _ HX1.out hn HS.out).mono ?_
        rintro e w2 ⟨rfl, hb2⟩
        have hbn := Below.trans (by first | exact hb1 | exact below_drewN hb1 _) (Below.mono hb2 (by first | omega | (simp; omega) | simp))
        clear hb2 fcb1 ffb1 fzb1 fsb1
        clear hb1
        have hb2 := hbn
        clear hbn
        obtain ⟨fcb2, ffb2, fzb2⟩ := bfacts hb2 (by first | exact Nat.le_refl _ | omega | (simp; omega) | simp); have fsb2 := hb2.size; try simp at fcb2 ffb2 fzb2 fsb2 hb2
        go_wp2_with (go_at_call 102; refine (implisBudget_any _ _).mono ?_; rintro e2 w3 ⟨rfl, rfl⟩)
        go_ret3
        exact slRes3_nil e.out (by repeat (first | with_reducible exact Below.refl _ _ | with_reducible assumption | (with_reducible refine Below.drew ?_) | (with_reducible refine below_drewN ?_ _) | ((with_reducible refine Below.alloc ?_ ?_ _); rotate_left; (focus (first | omega | (simp; omega) | simp))) | ((with_reducible refine Below.setCell ?_ ?_ _); rotate_left; (focus (first | omega | (simp; omega) | simp))) | (refine Below.trans ?_ (Below.mono (by assumption) (by first | omega | (simp; omega) | simp)))))
      · have e := hide (frcR_4 hv hr hbg)
        obtain ⟨-, ⟨a1, a2⟩, ⟨a3, a4⟩, ⟨a5, a6⟩, a7, a8⟩ := vTower_true _ _ _ _ _ hv
        obtain ⟨r1, r2, -⟩ := rowsB_true hr
        obtain ⟨p1, p2⟩ := inB_true hbg
        have HR1 := hide r1
        clear r1
        go_enter Try.func39, Try.ntmps39
        go_wp2_with fail
        refine (implValidTower nm sw dp sf lim _ hs).mono ?_
        rintro e w1 ⟨rfl, hb1⟩
        obtain ⟨fcb1, ffb1, fzb1⟩ := bfacts hb1 (by first | exact Nat.le_refl _ | omega | (simp; omega) | simp); have fsb1 := hb1.size; try simp at fcb1 ffb1 fzb1 fsb1 hb1
        have HX1 := hide (HX.out.below (by simpa using hb1))
        go_wp2_with fail
        refine (implValidSwings A c xs _ HX1.out hn HS.out).mono ?_
        rintro e w2 ⟨rfl, hb2⟩
        have hbn := Below.trans (by first | exact hb1 | exact below_drewN hb1 _) (Below.mono hb2 (by first | omega | (simp; omega) | simp))
        clear hb2 fcb1 ffb1 fzb1 fsb1
        clear hb1
        have hb2 := hbn
        clear hbn
        obtain ⟨fcb2, ffb2, fzb2⟩ := bfacts hb2 (by first | exact Nat.le_refl _ | omega | (simp; omega) | simp); have fsb2 := hb2.size; try simp at fcb2 ffb2 fzb2 fsb2 hb2
        have HX2 := hide (HX.out.below (by simpa using hb2))
        have HB2 := hide (show Below (w.heap.size + 1) (w.alloc (.cells #[.string nm, .int .i64 sw, .int .i64 dp, .int .i64 sf, .int .i64 lim] 56)) w2 by simpa using hb2)
        go_upto_region 5 with (go_at_call 102; refine (implisBudget_any _ _).mono ?_; rintro e2 w3 ⟨rfl, rfl⟩)
        go_cut [9] (fun v wx => ∃ (b : Nat) (aA : Option Addr) (ac : Nat), v = .pointer (some ⟨b, 0, none⟩) ∧ Hid (PuL w2 b aA ac bud lim (amps sw dp sf xs) wx none 0 []))
        case first =>
          have q0 := HB2.out.cell (p := ⟨w.heap.size, 0, none⟩) (by simp)
          have q1 := HB2.out.cell (p := ⟨w.heap.size, 1, none⟩) (by simp)
          have q2 := HB2.out.cell (p := ⟨w.heap.size, 2, none⟩) (by simp)
          have q3 := HB2.out.cell (p := ⟨w.heap.size, 3, none⟩) (by simp)
          have q4 := HB2.out.cell (p := ⟨w.heap.size, 4, none⟩) (by simp)
          have hwz := HB2.out.size
          simp at q0 q1 q2 q3 q4 hwz
          have HK := hide (fun (W : World) (h : Below w2.heap.size w2 W) => And.intro ((h.cell (p := ⟨w.heap.size, 0, none⟩) (by show w.heap.size < w2.heap.size; omega)).trans q0) (And.intro ((h.cell (p := ⟨w.heap.size, 1, none⟩) (by show w.heap.size < w2.heap.size; omega)).trans q1) (And.intro ((h.cell (p := ⟨w.heap.size, 2, none⟩) (by show w.heap.size < w2.heap.size; omega)).trans q2) (And.intro ((h.cell (p := ⟨w.heap.size, 3, none⟩) (by show w.heap.size < w2.heap.size; omega)).trans q3) (And.intro ((h.cell (p := ⟨w.heap.size, 4, none⟩) (by show w.heap.size < w2.heap.size; omega)).trans q4) h)))))
          clear hb2
          go_region_held3 (fun w' => w'.cell? ⟨w.heap.size, 0, none⟩ = some (.string nm) ∧ w'.cell? ⟨w.heap.size, 1, none⟩ = some (.int .i64 sw) ∧ w'.cell? ⟨w.heap.size, 2, none⟩ = some (.int .i64 dp) ∧ w'.cell? ⟨w.heap.size, 3, none⟩ = some (.int .i64 sf) ∧ w'.cell? ⟨w.heap.size, 4, none⟩ = some (.int .i64 lim) ∧ Below w2.heap.size w2 w')
            (exact HK.out _ (by repeat (first | with_reducible exact Below.refl _ _ | with_reducible assumption | (with_reducible refine Below.drew ?_) | (with_reducible refine below_drewN ?_ _) | ((with_reducible refine Below.alloc ?_ ?_ _); rotate_left; (focus (first | omega | (simp; omega) | simp))) | ((with_reducible refine Below.setCell ?_ ?_ _); rotate_left; (focus (first | omega | (simp; omega) | simp))) | (refine Below.trans ?_ (Below.mono (by assumption) (by first | omega | (simp; omega) | simp))))))
            (first | (go_at_call 103; refine (implamplitudes nm sw dp sf lim A c xs _ (HX2.out.below (show Below w2.heap.size w2 _ from (by repeat (first | with_reducible exact Below.refl _ _ | with_reducible assumption | (with_reducible refine Below.drew ?_) | (with_reducible refine below_drewN ?_ _) | ((with_reducible refine Below.alloc ?_ ?_ _); rotate_left; (focus (first | omega | (simp; omega) | simp))) | ((with_reducible refine Below.setCell ?_ ?_ _); rotate_left; (focus (first | omega | (simp; omega) | simp))) | (refine Below.trans ?_ (Below.mono (by assumption) (by first | omega | (simp; omega) | simp))))))) HR1.out r2 a1 a2 a3 a4 a5 a6).mono ?_; rintro e2 wK ⟨A3, c3, rfl, ho3, hbK⟩; have hbW : Below w2.heap.size w2 wK := Below.trans (show Below w2.heap.size w2 _ from (by repeat (first | with_reducible exact Below.refl _ _ | with_reducible assumption | (with_reducible refine Below.drew ?_) | (with_reducible refine below_drewN ?_ _) | ((with_reducible refine Below.alloc ?_ ?_ _); rotate_left; (focus (first | omega | (simp; omega) | simp))) | ((with_reducible refine Below.setCell ?_ ?_ _); rotate_left; (focus (first | omega | (simp; omega) | simp))) | (refine Below.trans ?_ (Below.mono (by assumption) (by first | omega | (simp; omega) | simp)))))) (hbK.mono (by first | exact Nat.le_refl _ | (simp; done) | (simp; omega))); have hzW := hbW.size; have HO3 := hide (show OwnI wK w2.heap.size (.slice A3 (amps sw dp sf xs).length c3) (amps sw dp sf xs) from ho3.mono (by first | exact Nat.le_refl _ | (simp; done))); clear ho3))
          all_goals
            go_wp2_with fail
            go_meet
            exact ⟨wK.heap.size, A3, c3, rfl, hide ⟨heap_alloc_new _ _, Own.nil, HO3.out.below ((Below.refl _ _).alloc (Nat.le_refl _) _), fun q => by have := (HO3.out.lt _ q).2; omega, fun g q => (HO3.out.lt g q).2, hbW.alloc hzW _, hzW⟩⟩
        case rest =>
          obtain ⟨w3, rfl⟩ : ∃ w3, w3 = wc := ⟨_, rfl⟩
          obtain ⟨b, aA, ac, rfl, HL⟩ := hcut
          have BB := hide (show Below w.heap.size w w2 from ((Below.refl _ _).alloc (Nat.le_refl _) _).trans (HB2.out.mono (by omega)))
          clear hb2 HB2 HX1 HX
          go_wp2_with fail
          go_loopw [36] (fun v wr => ∃ (k : Nat) (fA : Option Addr) (fc : Nat), v = .int .i64 k ∧ k ≤ xs.length ∧ Hid (PuL w2 b aA ac bud lim (amps sw dp sf xs) wr fA fc (frcs (xs.take k)))) (fun v _ => xs.length - (intOf v).toNat)
          case atStart => exact ⟨0, none, 0, rfl, by omega, by simpa [frcs] using HL⟩
          case round =>
            clear HL
            obtain ⟨k, fA, fc, rfl, hk, HL⟩ := hrel
            by_cases hlt : k < xs.length
            · obtain ⟨bq, oq, rfl, hbq, hc⟩ := (HX2.out.below HL.out.bel) k hlt
              have hft := frcs_take hlt
              have hlen : (frcs (xs.take k)).length = k := by unfold frcs; rw [List.length_map, List.length_take]; omega
              have hc0 := hc 0 _ rfl
              have hc1 := hc 1 _ rfl
              have hc2 := hc 2 _ rfl
              simp only [Nat.add_zero] at hc0
              have HFT := hide hft
              clear hc hft
              generalize xs[k] = x at *
              obtain ⟨x0, x1, x2⟩ := x
              simp only at hc0 hc1 hc2
              generalize frcs (xs.take k) = l at *
              have HL5 := hide (HL.out.below ((Below.refl _ _).alloc (Nat.le_refl _) (.cells #[.string x0, .int .i64 x1, .int .i64 x2] 77)))
              have c5 : (wr.alloc (.cells #[.string x0, .int .i64 x1, .int .i64 x2] 77)).cell? ⟨wr.heap.size, 2, none⟩ = some (.int .i64 x2) := by simp
              have z5 : wr.heap.size < (wr.alloc (.cells #[.string x0, .int .i64 x1, .int .i64 x2] 77)).heap.size := by simp
              have HLN := hide hlen
              have hl16 : l.length ≤ 16 := by omega
              clear hlen
              go_wp2_with fail
              generalize wr.alloc (.cells #[.string x0, .int .i64 x1, .int .i64 x2] 77) = w5 at *
              have hst := HL5.out.st
              have g2 : w5.cell? ⟨b, 2, none⟩ = some (.slice fA l.length fc) := by simp [World.cell?, hst]
              have f2 : w5.frozen? ⟨b, 2, none⟩ = false := by simp [World.frozen?, hst]
              have hbl := HL5.out.lt
              have HNb := hide (show some b ≠ (Value.slice fA l.length fc).ownBlock from fun e => by have := (HL5.out.of.lt b e.symm).1; omega)
              clear hst hc0 hc1 hc2 HL
              obtain ⟨i0', hi0, hz0, hz1', hz2'⟩ := info_parts info_i64
              go_region_law (refine step_append_lies _ (by rfl) _ _ _ (by rfl) (b + 1) 2 i0' _ 1 8 Try.underlying34 hi0 hz0 hz1' hz2' rfl (by omega) (.slice fA l.length fc) l.length (l.flatMap encI) (by rfl) (Own.below HL5.out.of (by repeat (first | with_reducible exact Below.refl _ _ | with_reducible assumption | (with_reducible refine Below.drew ?_) | (with_reducible refine below_drewN ?_ _) | ((with_reducible refine Below.alloc ?_ ?_ _); rotate_left; (focus (first | omega | (simp; omega) | simp))) | ((with_reducible refine Below.setCell ?_ ?_ _); rotate_left; (focus (first | omega | (simp; omega) | simp))) | (refine Below.trans ?_ (Below.mono (by assumption) (by first | omega | (simp; omega) | simp)))))) ⟨w5.heap.size, 0, none⟩ 1 1 [.int .i64 x2] (by rfl) (by rfl) (World.news_of_block (cs := #[.int .i64 x2]) (t := 2) (fr := (0, 0)) (heap_alloc_new _ _)) (by simp [Value.oneCell']) (by omega) (by unfold maxLen; omega) (by omega) (by simp; omega) (w5.heap.size + 1) (by simp) ?_; intro gg cap w9 hown9 hgrow hat hlt9; have g9' := (hgrow.cell_far ⟨b, 2, none⟩ (by simp; omega) HNb.out).trans (show _ = some (Value.slice fA l.length fc) by go_simp); have f9' := (hgrow.frozen_far ⟨b, 2, none⟩ (by simp; omega) HNb.out).trans (show _ = false by go_simp))
              all_goals
                have hb9 : Below (b + 1) w5 w9 := Below.grown (show Below (b + 1) w5 _ from (by repeat (first | with_reducible exact Below.refl _ _ | with_reducible assumption | (with_reducible refine Below.drew ?_) | (with_reducible refine below_drewN ?_ _) | ((with_reducible refine Below.alloc ?_ ?_ _); rotate_left; (focus (first | omega | (simp; omega) | simp))) | ((with_reducible refine Below.setCell ?_ ?_ _); rotate_left; (focus (first | omega | (simp; omega) | simp))) | (refine Below.trans ?_ (Below.mono (by assumption) (by first | omega | (simp; omega) | simp)))))) hgrow (by simp; omega) (fun k hk => (HL5.out.of.lt k hk).1)
                have hg9 := grown_trans (grown_of_below (show Below w5.heap.size w5 _ from (by repeat (first | with_reducible exact Below.refl _ _ | with_reducible assumption | (with_reducible refine Below.drew ?_) | (with_reducible refine below_drewN ?_ _) | ((with_reducible refine Below.alloc ?_ ?_ _); rotate_left; (focus (first | omega | (simp; omega) | simp))) | ((with_reducible refine Below.setCell ?_ ?_ _); rotate_left; (focus (first | omega | (simp; omega) | simp))) | (refine Below.trans ?_ (Below.mono (by assumption) (by first | omega | (simp; omega) | simp)))))) (Value.slice fA l.length fc).ownBlock) hgrow
                have hown : OwnI w9 (b + 1) (.slice (some ⟨gg, 0, none⟩) (l.length + 1) cap) (l ++ [x2]) := by
                  unfold OwnI Own
                  rw [List.length_append, List.flatMap_append]
                  simpa using hown9
                have hp := HL5.out.push hown hb9 hg9
                rw [← HFT.out] at hp
                have HL9 := hide hp
                clear hp hb9 hg9 hown hown9 hgrow hat g9' f9' hi0 hz0 hz1' hz2'
                go_wp2_with fail
                go_roundw
                case rel => exact ⟨k + 1, some ⟨gg, 0, none⟩, cap, by go_num, by omega, HL9⟩
                case measure => simp [intOf]; omega
            · obtain rfl : k = xs.length := by omega
              have hfl : (frcs xs).length = xs.length := by simp [frcs]
              have hal : (amps sw dp sf xs).length = xs.length := amps_len sw dp sf xs
              rw [List.take_length] at HL
              have hst := HL.out.st
              rw [hal, ← hfl] at hst
              have hI : PuI wr b fA fc aA ac (frcs xs).length lim wr none 0 [] none 0 ⟨bud, false, -1, []⟩ :=
                ⟨hst, Own.nil, Own.nil, (fun g h => by simp [Value.ownBlock] at h), ⟨by simp only; omega, by simp only; omega, by simp only; omega, by simp only; omega, by simp⟩, grown_refl _ _, HL.out.lt⟩
              have HF := hide (Own.at_ (enc := encI) (sz := 1) (fun _ => rfl) HL.out.of)
              have HA := hide (Own.at_ (enc := encI) (sz := 1) (fun _ => rfl) HL.out.oa)
              have HFN := hide (show ∀ g o, fA = some ⟨g, o, none⟩ → g ≠ b from fun g o q => by subst q; have := (HL.out.of.lt g rfl).1; omega)
              have HAN := hide (show ∀ g o, aA = some ⟨g, o, none⟩ → g ≠ b from fun g o q => by subst q; have := HL.out.ao g rfl; omega)
              have HFV := hide (show ∀ x ∈ frcs xs, 0 ≤ x ∧ x ≤ 1000000 from fun x hx => by
                unfold frcs at hx
                rw [List.mem_map] at hx
                obtain ⟨y, hy, rfl⟩ := hx
                have := vSwing_true _ _ _ (HR1.out y hy)
                omega)
              have HAV := hide (amps_val (sf := sf) a1 a2 a3 a4 a5 HR1.out)
              have hcap : (frcs xs).length ≤ fc ∧ fc ≤ 9223372036854775807 := by
                rcases HL.out.of.2 with ⟨e1, q⟩ | ⟨g, cap, cur, e1, _, _, hc1, hc2, _⟩
                · injection e1 with e3 e4 e5
                  omega
                · injection e1 with e3 e4 e5
                  unfold maxLen at hc2
                  omega
              have hs := pull_any wr b fA fc aA ac lim (frcs xs) (amps sw dp sf xs) HF HA HFN HAN (by omega) HFV HAV (by omega) hcap.1 hcap.2 a8 ((frcs xs).length + 1) 0 [] 0 0 ⟨bud, false, -1, []⟩ wr none 0 none 0 (by omega) (by omega) (by simp) (by omega) (by omega) (by omega) a7 (hide hI)
              have HSS := hide hs
              have BB3 := hide (BB.out.trans (HL.out.bel.mono BB.out.size))
              have hb0 := HL.out.hb
              have hww := BB.out.size
              have HRZ := hide (show lastP sw dp sf lim xs bud = Pu.pull (frcs xs) (amps sw dp sf xs) lim ((frcs xs).length + 1) 0 [] 0 0 ⟨bud, false, -1, []⟩ from by unfold lastP; rw [hfl])
              clear hI hs hst hcap HF HA HFN HAN HFV HAV
              go_wp2_with fail
              refine HSS.out.mono ?_
              rintro e3 w4 ⟨rfl, tv, tc, bv, bc, hP⟩
              rw [← HRZ.out] at hP
              have HP := hide hP
              have hst := hP.st
              have g1 : w4.cell? ⟨b, 1, none⟩ = some (.bool (lastP sw dp sf lim xs bud).spent) := by simp [World.cell?, hst]
              have g6 : w4.cell? ⟨b, 6, none⟩ = some (.slice bv (lastP sw dp sf lim xs bud).best.length bc) := by simp [World.cell?, hst]
              have g7 : w4.cell? ⟨b, 7, none⟩ = some (.int .i64 (lastP sw dp sf lim xs bud).most) := by simp [World.cell?, hst]
              have hbl := hP.lt
              have BB4 := hide (BB3.out.trans (Below.grown (Below.refl _ _) hP.gr BB3.out.size (fun k q => by injection q with q; omega)))
              have hbest := hP.inv.2.2.2.2
              clear hP hst HSS HL
              generalize lastP sw dp sf lim xs bud = sF at *
              obtain ⟨left, spent, most, best⟩ := sF
              simp only at g1 g6 g7 hbest
              cases spent
              · have e2 := hide (show frcR nm sw dp sf lim xs bud = (best, most, 0) from by rw [e.out]; rfl)
                go_wp2_with fail
                refine wp_region_kept (by kernel_rfl) (by kernel_rfl) ?_
                intro gc gf gz
                repeat (go_big_quiet_step (fail))
                refine wpQuiet_nil ?_
                intro w5 hw'
                obtain ⟨⟨_, hb5⟩, rfl⟩ := hw'
                clear gc gf gz
                try dsimp only
                have fs5 := hb5.size
                try simp at fs5 hb5
                have HP5 := hide (HP.out.below hb5)
                have BB5 := hide (BB4.out.trans (hb5.mono BB4.out.size))
                have hz4 := BB3.out.size
                clear hb5 HP
                go_wp2_with fail
                go_ret3
                exact ⟨bv, bc, best, most, 0, rfl, e2.out, by omega, HP5.out.ob.mono hz4, BB5.out⟩
              · have e2 := hide (show frcR nm sw dp sf lim xs bud = ([], 0, 5) from by rw [e.out]; rfl)
                go_wp2_with fail
                go_ret3
                exact slRes3_nil e2.out BB4.out
end Go.Proofs.Ytjklhacffdhgaaa
