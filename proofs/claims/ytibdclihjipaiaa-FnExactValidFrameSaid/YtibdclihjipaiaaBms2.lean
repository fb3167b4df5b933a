/- Rows of beams: the laws' count, copy and comparison; the law of ValidFrame. -/
import Derived.Test.YtibdclihjipaiaaBms
namespace Go.Proofs.Ytibdclihjipaiaa
open Go.RowKit

set_option maxRecDepth 100000 in
theorem lawsszBeamS_any (A : Option Addr) (c : Nat) (xs : List BeamV) (left : Int) (w : World) (h : SlAt encBV 6 w A xs) (hn : xs.length ≤ 9223372036854775807) (hs : ∀ x ∈ xs, x.nm.size ≤ maxLen ∧ x.ls.length ≤ 9223372036854775807) (h0 : 0 ≤ left) (h1 : left ≤ 1048576) :
    Calls Try.prog 20 #[.slice A xs.length c, .int .i64 left] w fun e w' => ∃ r : Int, e = .returned (.int .i64 r) ∧ -1 ≤ r ∧ r ≤ left ∧ (0 ≤ r → (xs.length : Int) ≤ left ∧ ∀ x ∈ xs, x.ls.length ≤ 1048576) ∧ Below w.heap.size w w' := by
  have HX := hide h
  have HS := hide hs
  clear h hs
  by_cases hz : (xs.length : Int) ≤ left
  · go_enter Try.func20, Try.ntmps20
    go_wp2_with fail
    go_loopw [5, 1] (fun v l wr => ∃ k : Nat, v = .int .i64 k ∧ k ≤ xs.length ∧ (∃ r : Int, l = .int .i64 r ∧ 0 ≤ r ∧ r ≤ left) ∧ Below w.heap.size w wr ∧ Hid (∀ j (hj : j < xs.length), j < k → xs[j].ls.length ≤ 1048576)) (fun v _ _ => xs.length - (intOf v).toNat)
    case atStart => exact ⟨0, rfl, by omega, ⟨_, rfl, by omega, by omega⟩, (by repeat (first | with_reducible exact Below.refl _ _ | with_reducible assumption | (with_reducible refine Below.drew ?_) | (with_reducible refine below_drewN ?_ _) | ((with_reducible refine Below.alloc ?_ ?_ _); rotate_left; (focus (first | omega | (simp; omega) | simp))) | ((with_reducible refine Below.setCell ?_ ?_ _); rotate_left; (focus (first | omega | (simp; omega) | simp))) | (refine Below.trans ?_ (Below.mono (by assumption) (by first | omega | (simp; omega) | simp))))), hide fun j hj h => by omega⟩
    case round =>
      obtain ⟨k, rfl, hk, ⟨r, rfl, r0, r1⟩, hb, hj⟩ := hrel
      by_cases hlt : k < xs.length
      · obtain ⟨b, off, rfl, hbl, hc⟩ := HX.out.below hb k hlt
        have hc0 := hc 0 _ rfl
        have hc1 := hc 1 _ rfl
        have hc2 := hc 2 _ rfl
        have hc3 := hc 3 _ rfl
        have hc4 := hc 4 _ rfl
        have hc5 := hc 5 _ rfl
        simp only [Nat.add_zero] at hc0
        obtain ⟨hsz, hln⟩ := HS.out xs[k] (List.getElem_mem hlt)
        have hz := hb.size
        clear hc
        generalize hx : xs[k] = x at *
        obtain ⟨x0, x1, x2, x3, x4, x5, x6, x7⟩ := x
        simp only at hc0 hc1 hc2 hc3 hc4 hc5 hsz hln
        have Hx := hide hx
        clear hx
        go_wp2_with fail
        refine (lawsszBeam_any x0 x1 x2 x3 x4 _ _ _ _ _ hsz hln (by omega) (by omega)).mono ?_
        rintro e w1 ⟨r', rfl, ra, rb, hr', hb1⟩
        obtain ⟨fcb1, ffb1, fzb1⟩ := bfacts hb1 (by first | exact Nat.le_refl _ | omega | (simp; omega) | simp); have fsb1 := hb1.size; try simp at fcb1 ffb1 fzb1 fsb1 hb1
        by_cases hq : 0 ≤ r'
        · have hl7 := hr' hq
          have hj2 : Hid (∀ j (hj : j < xs.length), j < k + 1 → xs[j].ls.length ≤ 1048576) := hide fun j h1 h2 => by
            by_cases e : j = k
            · subst e; rw [Hx.out]; show x7.length ≤ 1048576; omega
            · exact hj.out j h1 (by omega)
          clear hr'
          go_wp2_with fail
          go_roundw
          case rel => exact ⟨k + 1, by go_num, by omega, ⟨_, rfl, by omega, by omega⟩, (by repeat (first | with_reducible exact Below.refl _ _ | with_reducible assumption | (with_reducible refine Below.drew ?_) | (with_reducible refine below_drewN ?_ _) | ((with_reducible refine Below.alloc ?_ ?_ _); rotate_left; (focus (first | omega | (simp; omega) | simp))) | ((with_reducible refine Below.setCell ?_ ?_ _); rotate_left; (focus (first | omega | (simp; omega) | simp))) | (refine Below.trans ?_ (Below.mono (by assumption) (by first | omega | (simp; omega) | simp))))), hj2⟩
          case measure => simp [intOf]; omega
        · go_wp2_with fail
          go_ret
          exact ⟨-1, rfl, by omega, by omega, fun h => by omega, (by repeat (first | with_reducible exact Below.refl _ _ | with_reducible assumption | (with_reducible refine Below.drew ?_) | (with_reducible refine below_drewN ?_ _) | ((with_reducible refine Below.alloc ?_ ?_ _); rotate_left; (focus (first | omega | (simp; omega) | simp))) | ((with_reducible refine Below.setCell ?_ ?_ _); rotate_left; (focus (first | omega | (simp; omega) | simp))) | (refine Below.trans ?_ (Below.mono (by assumption) (by first | omega | (simp; omega) | simp)))))⟩
      · go_wp2_with fail
        go_ret
        exact ⟨r, rfl, by omega, r1, fun _ => ⟨hz, fun x hx => by
          obtain ⟨j, h1, rfl⟩ := List.getElem_of_mem hx
          exact hj.out j h1 (by omega)⟩, hb⟩
  · go_enter Try.func20, Try.ntmps20
    go_wp2_with fail
    go_ret
    exact ⟨-1, rfl, by omega, by omega, fun h => by omega, (by repeat (first | with_reducible exact Below.refl _ _ | with_reducible assumption | (with_reducible refine Below.drew ?_) | (with_reducible refine below_drewN ?_ _) | ((with_reducible refine Below.alloc ?_ ?_ _); rotate_left; (focus (first | omega | (simp; omega) | simp))) | ((with_reducible refine Below.setCell ?_ ?_ _); rotate_left; (focus (first | omega | (simp; omega) | simp))) | (refine Below.trans ?_ (Below.mono (by assumption) (by first | omega | (simp; omega) | simp)))))⟩

theorem SlAt.block {w : World} {b : Nat} {xs : List LoadR} (h : SlAt encLoad 2 w (some ⟨b, 0, none⟩) xs) {p : Addr} (hp : p.block ≠ b) (v : Value) : SlAt encLoad 2 (w.setCell p v) (some ⟨b, 0, none⟩) xs := h.far hp v
/-- The rows of loads of copied beams lie in blocks behind B. -/
def FarB (w : World) (B : Nat) (ys : List BeamV) : Prop := ∀ y ∈ ys, ∃ b, y.A = some ⟨b, 0, none⟩ ∧ B < b ∧ SlAt encLoad 2 w (some ⟨b, 0, none⟩) y.ls
theorem FarB.below {w w' : World} {B : Nat} {ys : List BeamV} (h : FarB w B ys) (hb : Below w.heap.size w w') : FarB w' B ys := fun y hy => by
  obtain ⟨b, e, hl, hs⟩ := h y hy
  exact ⟨b, e, hl, hs.below hb⟩
theorem FarB.set {w : World} {B : Nat} {ys : List BeamV} (h : FarB w B ys) (j : Nat) (v : Value) : FarB (w.setCell ⟨B, j, none⟩ v) B ys := fun y hy => by
  obtain ⟨b, e, hl, hs⟩ := h y hy
  exact ⟨b, e, hl, hs.far (by show B ≠ b; omega) v⟩
theorem FarB.in {w : World} {B : Nat} {ys : List BeamV} (h : FarB w B ys) : InB w ys := fun y hy => by
  obtain ⟨b, e, hl, hs⟩ := h y hy
  rw [e]; exact hs
theorem FarB.push {w : World} {B : Nat} {ys : List BeamV} (h : FarB w B ys) {y : BeamV} (hy : ∃ b, y.A = some ⟨b, 0, none⟩ ∧ B < b ∧ SlAt encLoad 2 w (some ⟨b, 0, none⟩) y.ls) : FarB w B (ys ++ [y]) := fun x hx => by
  rcases List.mem_append.1 hx with hx | hx
  · exact h x hx
  · simp at hx; subst hx; exact hy

theorem info_BV : (Try.prog.info? 29).map (fun i => (i.zero, i.size, i.bytes)) = some (some (.agg #[.string ByteArray.empty, .int .i64 0, .int .i64 0, .int .i64 0, .int .i64 0, .slice none 0 0]), 6, 72) := by kernel_rfl
set_option maxRecDepth 100000 in
set_option maxHeartbeats 1000000 in
theorem lawstoBeamS (A : Option Addr) (c : Nat) (xs : List BeamV) (w : World) (h : SlAt encBV 6 w A xs) (hi : InB w xs) (hn : xs.length ≤ 1048576) (hs : ∀ x ∈ xs, x.ls.length ≤ 1048576) :
    Calls Try.prog 22 #[.slice A xs.length c] w fun e w' => ∃ (b : Nat) (ys : List BeamV), e = .returned (.slice (some ⟨b, 0, none⟩) ys.length ys.length) ∧ xs.map BeamV.core = ys.map BeamV.core ∧ SlAt encBV 6 w' (some ⟨b, 0, none⟩) ys ∧ InB w' ys ∧ Below w.heap.size w w' := by
  obtain ⟨i0, hi0, hz0, hz1, hz2⟩ := info_parts info_BV
  have hmk := fun W => run_make_rowN (P := Try.prog) 35 29 i0 _ Try.underlying35 hi0 hz0 .i64 .i64 xs.length xs.length (Nat.le_refl _) (by rw [hz2]; omega) (by omega) W
  rw [hz1] at hmk
  generalize hcs : madeCells (Value.agg #[.string ByteArray.empty, .int .i64 0, .int .i64 0, .int .i64 0, .int .i64 0, .slice none 0 0]).cells (xs.length * 6) = cs at hmk
  have hcs' : cs.size = xs.length * 6 := by rw [← hcs, size_madeCells]
  have hF := Fill.start w cs 29
  rw [hcs'] at hF
  have HF := hide hF
  have HX := hide h
  have HI := hide hi
  have HS := hide hs
  clear hi0 hz0 hz1 hz2 hcs hcs' hF h hi hs
  go_enter Try.func22, Try.ntmps22
  go_wp2_with fail
  clear hmk
  go_loopw [4] (fun v wr => ∃ (k : Nat) (ys : List BeamV), v = .int .i64 k ∧ k ≤ xs.length ∧ ys.length = k ∧ Hid ((xs.take k).map BeamV.core = ys.map BeamV.core) ∧ Fill 29 wr w.heap.size (xs.length * 6) (ys.flatMap encBV) ∧ Below w.heap.size w wr ∧ FarB wr w.heap.size ys) (fun v _ => xs.length - (intOf v).toNat)
  case atStart => exact ⟨0, [], rfl, by omega, rfl, hide (by simp), by simpa using HF.out, (by repeat (first | with_reducible exact Below.refl _ _ | with_reducible assumption | (with_reducible refine Below.drew ?_) | (with_reducible refine below_drewN ?_ _) | ((with_reducible refine Below.alloc ?_ ?_ _); rotate_left; (focus (first | omega | (simp; omega) | simp))) | ((with_reducible refine Below.setCell ?_ ?_ _); rotate_left; (focus (first | omega | (simp; omega) | simp))) | (refine Below.trans ?_ (Below.mono (by assumption) (by first | omega | (simp; omega) | simp))))), fun y hy => by simp at hy⟩
  case round =>
    obtain ⟨k, ys, rfl, hk, hyl, hco, hR, hb, hfar⟩ := hrel
    by_cases hlt : k < xs.length
    · obtain ⟨b, off, rfl, hbl, hc⟩ := HX.out k hlt
      have hc0 := (hb.cell (p := ⟨b, off + k * 6 + 0, none⟩) hbl).trans (hc 0 _ rfl)
      have hc1 := (hb.cell (p := ⟨b, off + k * 6 + 1, none⟩) hbl).trans (hc 1 _ rfl)
      have hc2 := (hb.cell (p := ⟨b, off + k * 6 + 2, none⟩) hbl).trans (hc 2 _ rfl)
      have hc3 := (hb.cell (p := ⟨b, off + k * 6 + 3, none⟩) hbl).trans (hc 3 _ rfl)
      have hc4 := (hb.cell (p := ⟨b, off + k * 6 + 4, none⟩) hbl).trans (hc 4 _ rfl)
      have hc5 := (hb.cell (p := ⟨b, off + k * 6 + 5, none⟩) hbl).trans (hc 5 _ rfl)
      simp only [Nat.add_zero] at hc0
      have hin := (HI.out.below hb) xs[k] (List.getElem_mem hlt)
      have hln := HS.out xs[k] (List.getElem_mem hlt)
      have hz := hR.lt
      have ht : Hid ((xs.take (k + 1)).map BeamV.core = (xs.take k).map BeamV.core ++ [xs[k].core]) := hide (by rw [List.take_succ_eq_append_getElem hlt, List.map_append]; rfl)
      have HR := hide hR
      have HB := hide hb
      have HFa := hide hfar
      clear hR hb hc hfar
      generalize hx : xs[k] = x at *
      obtain ⟨x0, x1, x2, x3, x4, x5, x6, x7⟩ := x
      clear hx
      simp only at hc0 hc1 hc2 hc3 hc4 hc5 hin hln
      have HN := hide hin
      clear hin
      go_wp2_with fail
      refine (lawstoBeam x0 x1 x2 x3 x4 x5 x6 x7 _ HN.out hln).mono ?_
      rintro e w1 ⟨b2, rfl, hS1, hle1, hlt1, hb1⟩
      have hf1 := HR.out.below hb1 hz
      have hlen : (ys.flatMap encBV).length = k * 6 := by rw [flat_length (sz := 6) (fun _ => rfl), hyl]
      have HL := hide hlen
      obtain ⟨u0, hu0⟩ := hf1.cell (j := k * 6) (by omega)
      obtain ⟨u1, hu1⟩ := hf1.cell (j := k * 6 + 1) (by omega)
      obtain ⟨u2, hu2⟩ := hf1.cell (j := k * 6 + 2) (by omega)
      obtain ⟨u3, hu3⟩ := hf1.cell (j := k * 6 + 3) (by omega)
      obtain ⟨u4, hu4⟩ := hf1.cell (j := k * 6 + 4) (by omega)
      obtain ⟨u5, hu5⟩ := hf1.cell (j := k * 6 + 5) (by omega)
      have ff0 := hf1.frozen (k * 6)
      have ff1 := hf1.frozen (k * 6 + 1)
      have ff2 := hf1.frozen (k * 6 + 2)
      have ff3 := hf1.frozen (k * 6 + 3)
      have ff4 := hf1.frozen (k * 6 + 4)
      have ff5 := hf1.frozen (k * 6 + 5)
      have hz1 := hf1.lt
      have HP := hide (((((((hf1.push (m := k * 6) (by rw [HL.out]) (by omega) (.string x0)).push (m := k * 6 + 1) (by simp [HL.out]) (by omega) (.int .i64 x1)).push (m := k * 6 + 2) (by simp [HL.out]) (by omega) (.int .i64 x2)).push (m := k * 6 + 3) (by simp [HL.out]) (by omega) (.int .i64 x3)).push (m := k * 6 + 4) (by simp [HL.out]) (by omega) (.int .i64 x4)).push (m := k * 6 + 5) (by simp [HL.out]) (by omega) (.slice (some ⟨b2, 0, none⟩) x7.length x7.length)))
      have HG := hide (((((((HFa.out.below hb1).push (y := ⟨x0, x1, x2, x3, x4, some ⟨b2, 0, none⟩, x7.length, x7⟩) ⟨b2, rfl, by omega, hS1⟩).set (k * 6) (.string x0)).set (k * 6 + 1) (.int .i64 x1)).set (k * 6 + 2) (.int .i64 x2)).set (k * 6 + 3) (.int .i64 x3)).set (k * 6 + 4) (.int .i64 x4))
      have HB1 := hide (HB.out.trans (hb1.mono (by omega)))
      clear hf1 hlen hS1 hb1
      go_wp2_with fail
      go_roundw
      case rel => exact ⟨k + 1, ys ++ [⟨x0, x1, x2, x3, x4, some ⟨b2, 0, none⟩, x7.length, x7⟩], by go_num, by omega, by simp [hyl], hide (by rw [ht.out, hco.out, List.map_append]; rfl), by have hp := HP.out; simpa [encBV] using hp,
        Below.setCell (Below.setCell (Below.setCell (Below.setCell (Below.setCell (Below.setCell HB1.out (Nat.le_refl _) _) (Nat.le_refl _) _) (Nat.le_refl _) _) (Nat.le_refl _) _) (Nat.le_refl _) _) (Nat.le_refl _) _, HG.out.set (k * 6 + 5) _⟩
      case measure => simp [intOf]; omega
    · have hk2 : k = xs.length := by omega
      have hR' := hR
      rw [← hk2, ← hyl] at hR'
      have hfin := Fill.fin (enc := encBV) (sz := 6) (fun _ => rfl) hR'
      have HN := hide hfin
      have HG := hide hfar.in
      have hco' : Hid (xs.map BeamV.core = ys.map BeamV.core) := hide (by have := hco.out; rwa [List.take_of_length_le (by omega)] at this)
      have hyl2 : Hid (xs.length = ys.length) := hide (by omega)
      have hz := hR.lt
      have HB := hide hb
      clear hR hR' hfin hfar hb hk2 hyl
      go_wp2_with fail
      go_ret
      exact ⟨_, ys, by rw [← hyl2.out]; rfl, hco'.out, HN.out, HG.out, HB.out⟩
set_option maxRecDepth 100000 in
theorem lawseqBeamS_same (A A' : Option Addr) (c c' : Nat) (xs ys : List BeamV) (w : World) (he : xs.map BeamV.core = ys.map BeamV.core) (h : SlAt encBV 6 w A xs) (h' : SlAt encBV 6 w A' ys) (hi : InB w xs) (hi' : InB w ys) (hn : xs.length ≤ 1048576) (hs : ∀ x ∈ xs, x.ls.length ≤ 1048576) :
    Calls Try.prog 24 #[.slice A xs.length c, .slice A' ys.length c'] w fun e w' => e = .returned (.bool true) ∧ Below w.heap.size w w' := by
  have hl : ys.length = xs.length := by simpa using (congrArg List.length he).symm
  have HC : Hid (∀ (j : Nat) (h1 : j < xs.length) (h2 : j < ys.length), xs[j].core = ys[j].core) := hide fun j h1 h2 => by
    have := congrArg (fun l => l[j]?) he
    simpa [h1, h2] using this
  have HL := hide hl
  have HX := hide h
  have HY := hide h'
  have HI := hide hi
  have HJ := hide hi'
  have HS := hide hs
  rw [hl]
  clear h h' he hi hi' hl hs
  go_enter Try.func24, Try.ntmps24
  go_wp2_with fail
  go_loopw [5] (fun v wr => ∃ k : Nat, v = .int .i64 k ∧ k ≤ xs.length ∧ Below w.heap.size w wr) (fun v _ => xs.length - (intOf v).toNat)
  case atStart => exact ⟨0, rfl, by omega, (by repeat (first | with_reducible exact Below.refl _ _ | with_reducible assumption | (with_reducible refine Below.drew ?_) | (with_reducible refine below_drewN ?_ _) | ((with_reducible refine Below.alloc ?_ ?_ _); rotate_left; (focus (first | omega | (simp; omega) | simp))) | ((with_reducible refine Below.setCell ?_ ?_ _); rotate_left; (focus (first | omega | (simp; omega) | simp))) | (refine Below.trans ?_ (Below.mono (by assumption) (by first | omega | (simp; omega) | simp)))))⟩
  case round =>
    obtain ⟨k, rfl, hk, hb⟩ := hrel
    by_cases hlt : k < xs.length
    · have hlt2 : k < ys.length := by rw [HL.out]; exact hlt
      obtain ⟨b, off, rfl, hbl, hc⟩ := HX.out.below hb k hlt
      obtain ⟨b2, off2, rfl, hbl2, hd⟩ := HY.out.below hb k hlt2
      have hc0 := hc 0 _ rfl
      have hc1 := hc 1 _ rfl
      have hc2 := hc 2 _ rfl
      have hc3 := hc 3 _ rfl
      have hc4 := hc 4 _ rfl
      have hc5 := hc 5 _ rfl
      have hd0 := hd 0 _ rfl
      have hd1 := hd 1 _ rfl
      have hd2 := hd 2 _ rfl
      have hd3 := hd 3 _ rfl
      have hd4 := hd 4 _ rfl
      have hd5 := hd 5 _ rfl
      simp only [Nat.add_zero] at hc0 hd0
      have hin := (HI.out.below hb) xs[k] (List.getElem_mem hlt)
      have hjn := (HJ.out.below hb) ys[k] (List.getElem_mem hlt2)
      have hln := HS.out xs[k] (List.getElem_mem hlt)
      have hce := HC.out k hlt hlt2
      have hz := hb.size
      have HB := hide hb
      clear hc hd hb
      generalize hx : xs[k] = x at *
      generalize hy : ys[k] = y at *
      clear hx hy hlt2
      obtain ⟨x0, x1, x2, x3, x4, x5, x6, x7⟩ := x
      obtain ⟨y0, y1, y2, y3, y4, y5, y6, y7⟩ := y
      simp only [BeamV.core, Prod.mk.injEq] at hce
      obtain ⟨rfl, rfl, rfl, rfl, rfl, rfl⟩ := hce
      simp only at hc0 hc1 hc2 hc3 hc4 hc5 hd0 hd1 hd2 hd3 hd4 hd5 hin hjn hln
      have HN := hide hin
      have HM := hide hjn
      clear hin hjn
      go_wp2_with fail
      refine wp_region_kept (by kernel_rfl) (by kernel_rfl) ?_
      intro gc gf gz
      repeat (go_big_quiet_step ((go_at_call 19; exact Calls.kept (lawseqBeam_same x0 x1 x2 x3 x4 _ _ _ _ x7 _ (HN.out.below (Kept.h _)) (HM.out.below (Kept.h _)) hln))))
      refine wpQuiet_nil ?_
      intro w1 hw'
      obtain ⟨⟨_, hb1⟩, rfl⟩ := hw'
      clear gc gf gz
      try dsimp only
      have fs1 := hb1.size
      try simp at fs1 hb1
      have HB1 := hide (HB.out.trans (hb1.mono (by omega)))
      clear hb1
      go_wp2_with fail
      go_roundw
      case rel => exact ⟨k + 1, by go_num, by omega, HB1.out⟩
      case measure => simp [intOf]; omega
    · go_wp2_with fail
      go_ret
      exact ⟨rfl, hb⟩
set_option maxRecDepth 100000 in
theorem lawValidFrame (A : Option Addr) (c : Nat) (xs : List BeamV) (w : World) (h : SlAt encBV 6 w A xs) (hi : InB w xs) (hn : xs.length ≤ 9223372036854775807) (hs : ∀ x ∈ xs, x.nm.size ≤ maxLen ∧ x.ls.length ≤ 9223372036854775807) :
    Calls Try.prog 4 #[.slice A xs.length c] w fun e w' => e = .returned (.bool true) ∧ Below w.heap.size w w' := by
  have HX := hide h
  have HI := hide hi
  have HS := hide hs
  clear h hi hs
  go_enter Try.func4, Try.ntmps4
  go_wp2_with fail
  refine (lawsszBeamS_any _ _ xs _ _ HX.out hn HS.out (by omega) (by omega)).mono ?_
  rintro e w1 ⟨r, rfl, r0, r1, hr, hb1⟩
  by_cases hq : 0 ≤ r
  · have hl : xs.length ≤ 1048576 := by have := (hr hq).1; omega
    have HL := hide (hr hq).2
    clear hr hn
    have s1 := hb1.size
    go_wp2_with fail
    refine (lawstoBeamS _ _ xs _ (HX.out.below hb1) (HI.out.below hb1) hl HL.out).mono ?_
    rintro e w2 ⟨b2, ys, rfl, hco2, hS2, hI2, hb2⟩
    have s2 := hb2.size
    have hb2 := Below.trans hb1 (hb2.mono s1)
    have CO2 := hide hco2
    have hyl : ys.length ≤ 1048576 := by have := congrArg List.length hco2; simp at this; omega
    have hCS : ∀ zs : List BeamV, xs.map BeamV.core = zs.map BeamV.core → ∀ z ∈ zs, z.nm.size ≤ maxLen ∧ z.ls.length ≤ 1048576 := fun zs e z hz => by
      have hm : z.core ∈ zs.map BeamV.core := List.mem_map_of_mem hz
      rw [← e] at hm
      obtain ⟨x, hx, e⟩ := List.mem_map.1 hm
      obtain ⟨x0, x1, x2, x3, x4, x5, x6, x7⟩ := x
      obtain ⟨y0, y1, y2, y3, y4, y5, y6, y7⟩ := z
      simp only [BeamV.core, Prod.mk.injEq] at e
      obtain ⟨rfl, rfl, rfl, rfl, rfl, rfl⟩ := e
      have h1 := (HS.out _ hx).1
      have h2 := HL.out _ hx
      exact ⟨h1, h2⟩
    have CS := hide hCS
    have HS2 := hide hS2
    have HI2 := hide hI2
    clear hS2 hI2 hco2 hCS
    go_wp2_with fail
    refine (specValidFrame _ _ ys _ HS2.out HI2.out hyl (CS.out _ CO2.out)).mono ?_
    rintro e w3 ⟨rfl, hb3⟩
    rw [← rowsB_core CO2.out]
    have s3 := hb3.size
    have hb3 := Below.trans hb2 (hb3.mono hb2.size)
    clear hyl
    go_wp2_with fail
    refine (lawstoBeamS _ _ xs _ (HX.out.below hb3) (HI.out.below hb3) hl HL.out).mono ?_
    rintro e w4 ⟨b4, zs, rfl, hco4, hS4, hI4, hb4⟩
    have s4 := hb4.size
    have hb4 := Below.trans hb3 (hb4.mono hb3.size)
    have CO4 := hide hco4
    have hzl : zs.length ≤ 1048576 := by have := congrArg List.length hco4; simp at this; omega
    have HS4 := hide hS4
    have HI4 := hide hI4
    clear hS4 hI4 hco4
    go_wp2_with fail
    refine (implValidFrame _ _ zs _ HS4.out HI4.out hzl (CS.out _ CO4.out)).mono ?_
    rintro e w5 ⟨rfl, hb5⟩
    rw [← rowsB_core CO4.out]
    have HS5 := hide (HS4.out.below hb5)
    have HI5 := hide (HI4.out.below hb5)
    have s5 := hb5.size
    have hb5 := Below.trans hb4 (hb5.mono hb4.size)
    go_wp2_with fail
    refine (lawstoBeamS _ _ xs _ (HX.out.below hb5) (HI.out.below hb5) hl HL.out).mono ?_
    rintro e w6 ⟨b6, us, rfl, hco6, hS6, hI6, hb6⟩
    have HS6 := hide (HS5.out.below hb6)
    have HI6 := hide (HI5.out.below hb6)
    have HT6 := hide hS6
    have HJ6 := hide hI6
    have CO6 := hide hco6
    have s6 := hb6.size
    have hb6 := Below.trans hb5 (hb6.mono hb5.size)
    clear hS6 hI6 hco6
    go_wp2_with fail
    refine (lawseqBeamS_same _ _ _ _ zs us _ (CO4.out.symm.trans CO6.out) HS6.out HT6.out HI6.out HJ6.out hzl (fun x hx => (CS.out _ CO4.out x hx).2)).mono ?_
    rintro e w7 ⟨rfl, hb7⟩
    have hb7 := Below.trans hb6 (hb7.mono hb6.size)
    go_wp2_with fail
    go_ret
    exact ⟨rfl, hb7⟩
  · go_wp2_with fail
    go_ret
    exact ⟨rfl, hb1⟩
end Go.Proofs.Ytibdclihjipaiaa
