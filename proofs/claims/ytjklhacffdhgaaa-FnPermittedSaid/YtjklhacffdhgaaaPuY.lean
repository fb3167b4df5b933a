/- The reference's search for the greatest force: the call at the end of the list. -/
import Derived.Test.YtjklhacffdhgaaaPuX
namespace Go.Proofs.Ytjklhacffdhgaaa
open Go.RowKit

/-- What a call of the search is to show. -/
def RunPost (w0 : World) (b : Nat) (lA : Option Addr) (lc : Nat) (aA : Option Addr) (ac : Nat) (rA : Option Addr) (rc : Nat) (lim bud : Int) (fs am : List Int) (f k : Nat) (taken : List Int) (force sway : Int) (s : Pu.S) (e : Ending) (w' : World) : Prop :=
  e = .returned (.tuple #[]) ∧ ∃ (tv' : Option Addr) (tc' : Nat) (bv' : Option Addr) (bc' : Nat), PuX w0 b lA lc aA ac rA rc fs.length lim bud w' tv' tc' taken sway force bv' bc' (Pu.pull fs am lim f k taken force sway s)
def RunOK (w0 : World) (b : Nat) (lA : Option Addr) (lc : Nat) (aA : Option Addr) (ac : Nat) (rA : Option Addr) (rc : Nat) (lim bud : Int) (fs am : List Int) (f : Nat) : Prop :=
  ∀ (k : Nat) (taken : List Int) (force sway : Int) (s : Pu.S) (w : World) (tv : Option Addr) (tc : Nat) (bv : Option Addr) (bc : Nat), fs.length < f + k → k ≤ fs.length → taken.length ≤ k → 0 ≤ force → force ≤ 1000000 * k → 0 ≤ sway → sway ≤ lim → Hid (PuX w0 b lA lc aA ac rA rc fs.length lim bud w tv tc taken sway force bv bc s) →
    Calls Try.prog 98 #[.pointer (some ⟨b, 0, none⟩), .int .i64 k] w (RunPost w0 b lA lc aA ac rA rc lim bud fs am f k taken force sway s)
set_option maxRecDepth 100000 in
set_option maxHeartbeats 1000000 in
theorem run_last (w0 : World) (b : Nat) (lA : Option Addr) (lc : Nat) (aA : Option Addr) (ac : Nat) (rA : Option Addr) (rc : Nat) (lim bud : Int) (fs am : List Int) (hn : fs.length ≤ 16) (f : Nat) (taken : List Int) (force sway : Int) (s : Pu.S) (w : World) (tv : Option Addr) (tc : Nat) (bv : Option Addr) (bc : Nat) (htl : taken.length ≤ fs.length) (f0 : 0 ≤ force) (f1 : force ≤ 16000000)
    (HS : Hid (PuX w0 b lA lc aA ac rA rc fs.length lim bud w tv tc taken sway force bv bc s)) :
    Calls Try.prog 98 #[.pointer (some ⟨b, 0, none⟩), .int .i64 fs.length] w (RunPost w0 b lA lc aA ac rA rc lim bud fs am (f + 1) fs.length taken force sway s) := by
  have hst := HS.out.st
  obtain ⟨left, spent, most, best⟩ := s
  simp only at hst
  have g0 : w.cell? ⟨b, 0, none⟩ = some (.slice lA fs.length lc) := by simp [World.cell?, hst, puCellsX]
  have g6 : w.cell? ⟨b, 6, none⟩ = some (.int .i64 force) := by simp [World.cell?, hst, puCellsX]
  have g8 : w.cell? ⟨b, 8, none⟩ = some (.int .i64 most) := by simp [World.cell?, hst, puCellsX]
  have hbl := HS.out.lt
  clear hst
  by_cases hm : most < force
  · have e := hide (show Pu.pull fs am lim (f + 1) fs.length taken force sway ⟨left, spent, most, best⟩ = ⟨left, spent, force, taken⟩ from by rw [Pu.pull_end rfl]; unfold Pu.look; rw [if_pos hm])
    go_enter Try.func98, Try.ntmps98
    go_wp2_with fail
    refine wp_region_kept (by kernel_rfl) (by kernel_rfl) ?_
    intro gc gf gz
    repeat (go_big_quiet_step (fail))
    refine wpQuiet_nil ?_
    intro w1 hw'
    obtain ⟨⟨_, hb1⟩, rfl⟩ := hw'
    clear gc gf gz
    try dsimp only
    have fs1 := hb1.size
    try simp at fs1 hb1
    have HS1 := hide (HS.out.below hb1)
    clear HS g0 g6 g8 hb1 fs1
    have hst := HS1.out.st
    simp only at hst
    have g6 : w1.cell? ⟨b, 6, none⟩ = some (.int .i64 force) := by simp [World.cell?, hst, puCellsX]
    have g4 : w1.cell? ⟨b, 4, none⟩ = some (.slice tv taken.length tc) := by simp [World.cell?, hst, puCellsX]
    have g8 : w1.cell? ⟨b, 8, none⟩ = some (.int .i64 most) := by simp [World.cell?, hst, puCellsX]
    have g7 : w1.cell? ⟨b, 7, none⟩ = some (.slice bv best.length bc) := by simp [World.cell?, hst, puCellsX]
    have f8 : w1.frozen? ⟨b, 8, none⟩ = false := by simp [World.frozen?, hst]
    have f7 : w1.frozen? ⟨b, 7, none⟩ = false := by simp [World.frozen?, hst]
    have hbl1 := HS1.out.lt
    have hbb := HS1.out.hb
    have hgz := HS1.out.gr.size
    have HM := hide (HS1.out.most force (by omega) (by omega))
    clear hst
    go_wp2_with fail
    refine (specl00Own w0.heap.size tv tc taken _ HM.out.ot (by omega)).mono ?_
    rintro e2 w3 ⟨A3, c3, rfl, ho3, hb3⟩
    have HB := hide (HM.out.best ho3 hb3 (by omega))
    have f7' : w3.frozen? ⟨b, 7, none⟩ = false := (hb3.frozen (p := ⟨b, 7, none⟩) (by simpa using hbl1)).trans (by go_simp)
    have g7' : w3.cell? ⟨b, 7, none⟩ = some (.slice bv best.length bc) := (hb3.cell (p := ⟨b, 7, none⟩) (by simpa using hbl1)).trans (by go_simp)
    clear ho3 hb3
    go_wp2_with fail
    ((try simp only [Exit.inBlock, Exit.then]); refine bodyPost_ret (results_none rfl _ _ _) rfl ?_)
    exact ⟨rfl, tv, tc, A3, c3, by rw [e.out]; exact HB.out⟩
  · have e := hide (show Pu.pull fs am lim (f + 1) fs.length taken force sway ⟨left, spent, most, best⟩ = ⟨left, spent, most, best⟩ from by rw [Pu.pull_end rfl]; unfold Pu.look; rw [if_neg hm])
    go_enter Try.func98, Try.ntmps98
    go_wp2_with fail
    refine wp_region_kept (by kernel_rfl) (by kernel_rfl) ?_
    intro gc gf gz
    repeat (go_big_quiet_step (fail))
    refine wpQuiet_nil ?_
    intro w1 hw'
    obtain ⟨⟨_, hb1⟩, rfl⟩ := hw'
    clear gc gf gz
    try dsimp only
    have fs1 := hb1.size
    try simp at fs1 hb1
    have HS1 := hide (HS.out.below hb1)
    clear HS g0 g6 g8 hb1 fs1
    go_wp2_with fail
    ((try simp only [Exit.inBlock, Exit.then]); refine bodyPost_ret (results_none rfl _ _ _) rfl ?_)
    exact ⟨rfl, tv, tc, bv, bc, by rw [e.out]; exact HS1.out⟩
end Go.Proofs.Ytjklhacffdhgaaa
