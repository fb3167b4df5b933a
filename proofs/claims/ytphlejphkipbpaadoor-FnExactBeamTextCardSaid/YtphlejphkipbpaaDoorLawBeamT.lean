/- The walk of the law of a beam's text. Condition: the library's table of powers of ten is laid. -/
import Derived.Test.YtphlejphkipbpaaDoorTextBeam2
namespace Go.Proofs.YtphlejphkipbpaaDoor
open Go.RowKit Go.Lib

set_option maxRecDepth 100000 in
set_option maxHeartbeats 1000000 in
theorem lawBeamText (nm : ByteArray) (span wd dp wood : Int) (A : Option Addr) (c : Nat) (ls : List LoadR) (w : World) (hE : EnvT w) (h : SlAt encLoad 2 w A ls) (hn : ls.length ≤ 9223372036854775807) (hs : nm.size ≤ maxLen) :
    Calls Tryd.prog 7 #[.agg #[.string nm, .int .i64 span, .int .i64 wd, .int .i64 dp, .int .i64 wood, .slice A ls.length c]] w fun e w' => e = .returned (.bool true) ∧ Below w.heap.size w w' := by
  have HX := hide (h.below ((Below.refl _ _).alloc (Nat.le_refl _) (.cells #[.string nm, .int .i64 span, .int .i64 wd, .int .i64 dp, .int .i64 wood, .slice A ls.length c] 51)))
  have HE0 := hide (show ∀ w', Below (w.heap.size + 1) (w.alloc (.cells #[.string nm, .int .i64 span, .int .i64 wd, .int .i64 dp, .int .i64 wood, .slice A ls.length c] 51)) w' → EnvT w' from fun w' h => (hE.below ((Below.refl _ _).alloc (Nat.le_refl _) _)).below (by simpa using h))
  clear h hE
  go_enter Tryd.func7, Tryd.ntmps7
  go_wp2_with fail
  refine (lawsszBeam_any nm span wd dp wood A ls.length c _ _ hs hn (by omega) (by omega)).mono ?_
  rintro e w1 ⟨r, rfl, r0, r1, hr, hb1⟩
  have HX1 := hide (HX.out.below hb1)
  obtain ⟨fcb1, ffb1, fzb1⟩ := bfacts hb1 (by first | exact Nat.le_refl _ | omega | (simp; omega) | simp); have fsb1 := hb1.size; try simp at fcb1 ffb1 fzb1 fsb1 hb1
  by_cases hq : 0 ≤ r
  · have hl : ls.length ≤ 1048576 := by have := hr hq; omega
    clear hr hn
    go_wp2_with fail
    refine (lawstoBeam nm span wd dp wood A c ls _ HX1.out hl).mono ?_
    rintro e w2 ⟨b2, rfl, hS2, hle2, hlt2, hb2⟩
    have HS2 := hide hS2
    have HX2 := hide (HX1.out.below hb2)
    clear hS2 hle2 hlt2
    have hbn := Below.trans hb1 (hb2.mono fsb1)
    clear hb1 hb2 fcb1 ffb1 fzb1
    have hb2 := hbn
    clear hbn
    obtain ⟨fcb2, ffb2, fzb2⟩ := bfacts hb2 (by first | exact Nat.le_refl _ | omega | (simp; omega) | simp); have fsb2 := hb2.size; try simp at fcb2 ffb2 fzb2 fsb2 hb2
    go_wp2_with fail
    refine (specBeamText nm span wd dp wood _ _ ls _ HS2.out hl hs).mono ?_
    rintro e w3 ⟨rfl, hb3⟩
    have HX3 := hide (HX2.out.below hb3)
    have hbn := Below.trans hb2 (hb3.mono fsb2)
    clear hb2 hb3 fcb2 ffb2 fzb2
    have hb3 := hbn
    clear hbn
    obtain ⟨fcb3, ffb3, fzb3⟩ := bfacts hb3 (by first | exact Nat.le_refl _ | omega | (simp; omega) | simp); have fsb3 := hb3.size; try simp at fcb3 ffb3 fzb3 fsb3 hb3
    go_wp2_with fail
    refine (lawstoBeam nm span wd dp wood A c ls _ HX3.out hl).mono ?_
    rintro e w4 ⟨b4, rfl, hS4, hle4, hlt4, hb4⟩
    have HS4 := hide hS4
    have HX4 := hide (HX3.out.below hb4)
    clear hS4 hle4 hlt4
    have hbn := Below.trans hb3 (hb4.mono fsb3)
    clear hb3 hb4 fcb3 ffb3 fzb3
    have hb4 := hbn
    clear hbn
    obtain ⟨fcb4, ffb4, fzb4⟩ := bfacts hb4 (by first | exact Nat.le_refl _ | omega | (simp; omega) | simp); have fsb4 := hb4.size; try simp at fcb4 ffb4 fzb4 fsb4 hb4
    go_wp2_with fail
    refine (implBeamText nm span wd dp wood _ _ ls _ (HS4.out.below ((Below.refl _ _).alloc (Nat.le_refl _) _)) (HE0.out _ (hb4.alloc (by omega) _)) hl hs).mono ?_
    rintro e w5 ⟨rfl, hb5⟩
    have HS5 := hide ((HS4.out.below ((Below.refl _ _).alloc (Nat.le_refl _) _)).below hb5)
    have HX5 := hide ((HX4.out.below ((Below.refl _ _).alloc (Nat.le_refl _) _)).below hb5)
    have q0 := hb5.cell (p := ⟨w4.heap.size, 0, none⟩) (by simp)
    have q1 := hb5.cell (p := ⟨w4.heap.size, 1, none⟩) (by simp)
    have q2 := hb5.cell (p := ⟨w4.heap.size, 2, none⟩) (by simp)
    have q3 := hb5.cell (p := ⟨w4.heap.size, 3, none⟩) (by simp)
    have q4 := hb5.cell (p := ⟨w4.heap.size, 4, none⟩) (by simp)
    have q5 := hb5.cell (p := ⟨w4.heap.size, 5, none⟩) (by simp)
    simp at q0 q1 q2 q3 q4 q5
    have y4 := hb5.size
    simp at y4
    have y5 : w4.heap.size < w5.heap.size := by omega
    have hbn := Below.trans (hb4.alloc (by omega) _) (hb5.mono (by simp; omega))
    clear hb4 hb5 fcb4 ffb4 fzb4
    have hb5 := hbn
    clear hbn
    obtain ⟨fcb5, ffb5, fzb5⟩ := bfacts hb5 (by first | exact Nat.le_refl _ | omega | (simp; omega) | simp); have fsb5 := hb5.size; try simp at fcb5 ffb5 fzb5 fsb5 hb5
    have p0 := fcb5 w.heap.size 0 (by omega)
    have p1 := fcb5 w.heap.size 1 (by omega)
    have p2 := fcb5 w.heap.size 2 (by omega)
    have p3 := fcb5 w.heap.size 3 (by omega)
    have p4 := fcb5 w.heap.size 4 (by omega)
    have p5 := fcb5 w.heap.size 5 (by omega)
    simp at p0 p1 p2 p3 p4 p5
    have hz : w.heap.size < w4.heap.size := by omega
    have hbW : Below w.heap.size w w5 := (by repeat (first | with_reducible exact Below.refl _ _ | with_reducible assumption | (with_reducible refine Below.drew ?_) | (with_reducible refine below_drewN ?_ _) | ((with_reducible refine Below.alloc ?_ ?_ _); rotate_left; (focus (first | omega | (simp; omega) | simp))) | ((with_reducible refine Below.setCell ?_ ?_ _); rotate_left; (focus (first | omega | (simp; omega) | simp))) | (refine Below.trans ?_ (Below.mono (by assumption) (by first | omega | (simp; omega) | simp)))))
    have HBW := hide hbW
    clear hb5 fcb5 ffb5 fzb5
    go_wp2_with fail
    have hSW : SlAt encLoad 2 w5 (some ⟨b4, 0, none⟩) ls := HS5.out
    have hXW : SlAt encLoad 2 w5 A ls := HX5.out
    go_region_held3 (fun w' => w'.cell? ⟨w.heap.size, 0, none⟩ = some (.string nm) ∧ w'.cell? ⟨w.heap.size, 1, none⟩ = some (.int .i64 span) ∧ w'.cell? ⟨w.heap.size, 2, none⟩ = some (.int .i64 wd) ∧ w'.cell? ⟨w.heap.size, 3, none⟩ = some (.int .i64 dp) ∧ w'.cell? ⟨w.heap.size, 4, none⟩ = some (.int .i64 wood) ∧ w'.cell? ⟨w.heap.size, 5, none⟩ = some (.slice A ls.length c) ∧ w'.cell? ⟨w4.heap.size, 0, none⟩ = some (.string nm) ∧ w'.cell? ⟨w4.heap.size, 1, none⟩ = some (.int .i64 span) ∧ w'.cell? ⟨w4.heap.size, 2, none⟩ = some (.int .i64 wd) ∧ w'.cell? ⟨w4.heap.size, 3, none⟩ = some (.int .i64 dp) ∧ w'.cell? ⟨w4.heap.size, 4, none⟩ = some (.int .i64 wood) ∧ w'.cell? ⟨w4.heap.size, 5, none⟩ = some (.slice (some ⟨b4, 0, none⟩) ls.length ls.length) ∧ w4.heap.size < w'.heap.size ∧ Below w.heap.size w w' ∧ SlAt encLoad 2 w' (some ⟨b4, 0, none⟩) ls ∧ SlAt encLoad 2 w' A ls)
      ((first | exact ⟨p0, p1, p2, p3, p4, p5, q0, q1, q2, q3, q4, q5, y5, HBW.out.drew, hSW.below (Below.refl _ _).drew, hXW.below (Below.refl _ _).drew⟩ | (go_split_ands; (repeat' apply And.intro); all_goals (first | exact (hbK.cell (by first | omega | (simp; omega) | simp)).trans (by assumption) | (have hq := hbK.size; (try simp at hq); omega) | (exact Below.trans (by assumption) (hbK.mono (by first | omega | (simp; omega) | simp))) | exact SlAt.below (by assumption) hbK))))
      (first
        | (go_at_call 31; refine (lawstoBeam nm span wd dp wood A c ls _ ?_ hl).mono ?_; (focus (go_split_ands; assumption)); rintro e wK ⟨b6, rfl, hS6, hle6, hlt6, hbK⟩)
        | (go_at_call 33; refine (lawseqBeam_same nm span wd dp wood _ _ _ _ ls _ ?_ ?_ hl).mono ?_; (focus (go_split_ands; assumption)); (focus (go_split_ands; assumption)); rintro e wK ⟨rfl, hbK⟩))
    have hbE : Below w.heap.size w wK := by go_split_ands; assumption
    go_wp2_with fail
    go_ret
    exact ⟨rfl, hbE⟩
  · go_wp2_with fail
    go_ret
    exact ⟨rfl, (by repeat (first | with_reducible exact Below.refl _ _ | with_reducible assumption | (with_reducible refine Below.drew ?_) | (with_reducible refine below_drewN ?_ _) | ((with_reducible refine Below.alloc ?_ ?_ _); rotate_left; (focus (first | omega | (simp; omega) | simp))) | ((with_reducible refine Below.setCell ?_ ?_ _); rotate_left; (focus (first | omega | (simp; omega) | simp))) | (refine Below.trans ?_ (Below.mono (by assumption) (by first | omega | (simp; omega) | simp)))))⟩
end Go.Proofs.YtphlejphkipbpaaDoor
