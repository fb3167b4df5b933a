/- What the laws draw out of bytes: beams and numbers; the law of the least depth. -/
import Derived.Test.YtajodbhbmfjmjaaGreatDoorDraw
import Derived.Test.YtajodbhbmfjmjaaGreatDoorMono
namespace Go.Proofs.YtajodbhbmfjmjaaGreatDoor
open Go.RowKit

set_option maxRecDepth 100000 in
set_option maxHeartbeats 2000000 in
theorem specR8Beam (A : Option Addr) (n c : Nat) (w : World) (h : ByAt w w.heap.size A n) (hn : n ≤ 9223372036854775807) :
    Calls Tryz.prog 5 #[.slice A n c] w fun e w' => ∃ (nm : ByteArray) (span wd dp wood : Int) (A : Option Addr) (c : Nat) (ls : List LoadR), e = .returned (.agg #[.string nm, .int .i64 span, .int .i64 wd, .int .i64 dp, .int .i64 wood, .slice A ls.length c]) ∧
      vBeam nm span wd dp wood ls = true ∧ nm.size ≤ maxLen ∧ 50 ≤ dp ∧ dp ≤ 449 ∧ SlAt encLoad 2 w' A ls ∧ (ls.length ≤ 3 ∧ ((A = none ∧ ls = []) ∨ ∃ g, A = some ⟨g, 0, none⟩)) ∧ Below w.heap.size w w' := by
  have HX := hide h
  clear h
  go_enter Tryz.func5, Tryz.ntmps5
  go_wp2_with fail
  refine (specl00From A n c (w.alloc (.cells #[.string ⟨#[]⟩, .int .i64 0, .int .i64 0, .int .i64 0, .int .i64 0, .slice none 0 0] 26)) (fun k hk => ?_) hn).mono ?_
  · obtain ⟨b, off, x, e, hl, hc, hx⟩ := HX.out k hk
    exact ⟨b, off, x, e, by simp; omega, (((Below.refl w.heap.size w).alloc (Nat.le_refl _) _).cell (p := ⟨b, off + k, none⟩) hl).trans hc, hx⟩
  rintro e w1 ⟨rfl, hS1, hb1⟩
  have HS1 := hide (show Src w1 (w.heap.size + 1) (w.heap.size + 1) 0 by simpa using hS1)
  have HB1 := hide (show Below (w.heap.size + 1) (w.alloc (.cells #[.string ⟨#[]⟩, .int .i64 0, .int .i64 0, .int .i64 0, .int .i64 0, .slice none 0 0] 26)) w1 by simpa using hb1)
  clear hS1 hb1
  go_wp2_with fail
  refine (specl21Draw (w.heap.size + 1) (w.heap.size + 1) w1 HS1.out).mono ?_
  rintro e w2 ⟨nm, span, wd, dp, wood, A', c', ls, rfl, hv, hs, d1, d2, hA, hG, hki, hb2⟩
  have hb := HB1.out.trans hb2
  have q0 := hb.cell (p := ⟨w.heap.size, 0, none⟩) (by simp)
  have q1 := hb.cell (p := ⟨w.heap.size, 1, none⟩) (by simp)
  have q2 := hb.cell (p := ⟨w.heap.size, 2, none⟩) (by simp)
  have q3 := hb.cell (p := ⟨w.heap.size, 3, none⟩) (by simp)
  have q4 := hb.cell (p := ⟨w.heap.size, 4, none⟩) (by simp)
  have q5 := hb.cell (p := ⟨w.heap.size, 5, none⟩) (by simp)
  simp at q0 q1 q2 q3 q4 q5
  have y := fun j => hb.frozen (p := ⟨w.heap.size, j, none⟩) (by simp)
  have y0 : w2.frozen? ⟨w.heap.size, 0, none⟩ = false := (y 0).trans (by simp)
  have y1 : w2.frozen? ⟨w.heap.size, 1, none⟩ = false := (y 1).trans (by simp)
  have y2 : w2.frozen? ⟨w.heap.size, 2, none⟩ = false := (y 2).trans (by simp)
  have y3 : w2.frozen? ⟨w.heap.size, 3, none⟩ = false := (y 3).trans (by simp)
  have y4 : w2.frozen? ⟨w.heap.size, 4, none⟩ = false := (y 4).trans (by simp)
  have y5 : w2.frozen? ⟨w.heap.size, 5, none⟩ = false := (y 5).trans (by simp)
  have HV := hide hv
  have HKI := hide hki
  clear hki
  have HA := hide (fun W (hg : w2.grownBy W (some w.heap.size)) => SlAt.grown hA hg (fun g o e q => by
    injection q with q
    have := hG g o e
    omega))
  have HBB := hide (Below.trans ((Below.refl w.heap.size w).alloc (Nat.le_refl _) _) (hb.mono (Nat.le_succ _)))
  clear hv hA hG hb2 hb y
  go_wp2_with fail
  refine bodyPost_ret (v := .agg #[.string nm, .int .i64 span, .int .i64 wd, .int .i64 dp, .int .i64 wood, .slice A' ls.length c']) (by simp [results, Tryz.results5, go_sem, q0, q1, q2, q3, q4, q5]) rfl ⟨nm, _, _, _, _, A', c', ls, rfl, HV.out, hs, d1, d2, HA.out _ ?_, HKI.out, ?_⟩
  · iterate 6 (refine grown_set ?_ _ _)
    exact grown_refl _ _
  · iterate 6 ((with_reducible refine Below.setCell ?_ ?_ _); rotate_left; (focus exact Nat.le_refl _))
    exact HBB.out
theorem lawsr8Long (A A' : Option Addr) (n c n' c' : Nat) (w : World) : Calls Tryz.prog 4 #[.slice A n c, .slice A' n' c'] w fun e w' => e = .returned (.bool (decide ((1048576 : Int) < n) || decide ((1048576 : Int) < n'))) ∧ w = w' := by
  by_cases h : (1048576 : Int) < n <;> by_cases h' : (1048576 : Int) < n'
  all_goals
    have e : Hid (decide ((1048576 : Int) < n) || decide ((1048576 : Int) < n')) = (decide ((1048576 : Int) < n) || decide ((1048576 : Int) < n')) := rfl
    go_enter Tryz.func4, Tryz.ntmps4
    go_wp2
    go_ret
    exact ⟨by simp [*], rfl⟩
theorem lawsr8At (B : Nat) (A : Option Addr) (n c k : Nat) (w : World) (h : ByAt w B A n) (_hk : k ≤ 1000) (_hn : n ≤ 9223372036854775807) :
    Calls Tryz.prog 21 #[.slice A n c, .int .i64 k, .int .i64 256] w fun e w' => ∃ r : Int, e = .returned (.int .i64 r) ∧ 0 ≤ r ∧ r ≤ 255 ∧ w = w' := by
  by_cases hl : k < n
  · obtain ⟨b, off, x, rfl, _, hx, x0, x1⟩ := h k hl
    clear h
    go_enter Tryz.func21, Tryz.ntmps21
    go_wp2
    go_ret
    exact ⟨_, rfl, Int.emod_nonneg _ (by omega), by have := Int.emod_lt_of_pos x (show (0 : Int) < 256 by omega); omega, rfl⟩
  · clear h
    go_enter Tryz.func21, Tryz.ntmps21
    go_wp2
    go_ret
    exact ⟨0, rfl, by omega, by omega, rfl⟩
theorem lawsr8Wide (B : Nat) (A : Option Addr) (n c k : Nat) (m : Int) (w : World) (h : ByAt w B A n) (hk : k ≤ 999) (hn : n ≤ 9223372036854775807) (m0 : 1 ≤ m) (m1 : m ≤ 1000000) :
    Calls Tryz.prog 7 #[.slice A n c, .int .i64 k, .int .i64 m] w fun e w' => ∃ r : Int, e = .returned (.int .i64 r) ∧ 0 ≤ r ∧ r < m ∧ w = w' := by
  have HX := hide h
  clear h
  go_enter Tryz.func7, Tryz.ntmps7
  go_wp2_with fail
  refine (lawsr8At B A n c k _ HX.out (by omega) hn).mono ?_
  rintro e w1 ⟨r, rfl, r0, r1, rfl⟩
  go_wp2_with fail
  refine (lawsr8At B A n c (k + 1) _ HX.out (by omega) hn).mono ?_
  rintro e w1 ⟨r', rfl, r0', r1', rfl⟩
  go_wp2_with fail
  go_ret
  exact ⟨_, rfl, Int.emod_nonneg _ (by omega), Int.emod_lt_of_pos _ (by omega), rfl⟩
end Go.Proofs.YtajodbhbmfjmjaaGreatDoor
