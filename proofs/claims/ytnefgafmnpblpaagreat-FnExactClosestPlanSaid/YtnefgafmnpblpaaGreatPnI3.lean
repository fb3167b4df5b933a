/- Contracts: the program's search for plans: its small methods. -/
import Derived.Test.YtnefgafmnpblpaaGreatPnI2
namespace Go.Proofs.YtnefgafmnpblpaaGreat
open Go.RowKit Pn

section
variable {x : Cx} {w0 w : World} {b gl lc gs sc : Nat} {sum : Int} {first : Bool} {ss : List Int} {s : S}
theorem CuI.all (h : CuI x w0 b gl lc gs sc sum first w ss s) : w.cell? ⟨b, 0, none⟩ = some (.int .i64 s.left) ∧ w.cell? ⟨b, 1, none⟩ = some (.bool s.spent) ∧ w.cell? ⟨b, 2, none⟩ = some (.slice x.Az x.zs.length x.cz) ∧ w.cell? ⟨b, 3, none⟩ = some (.slice x.Aw x.ws.length x.cw) ∧ w.cell? ⟨b, 4, none⟩ = some (.slice x.Ab x.bs.length x.cb) ∧ w.cell? ⟨b, 5, none⟩ = some (.string x.nm) ∧ w.cell? ⟨b, 6, none⟩ = some (.slice x.A x.rs.length x.c) ∧ w.cell? ⟨b, 7, none⟩ = some (.int .i64 x.t0) ∧ w.cell? ⟨b, 8, none⟩ = some (.int .i64 x.t1) ∧ w.cell? ⟨b, 9, none⟩ = some (.int .i64 x.t2) ∧ w.cell? ⟨b, 10, none⟩ = some (.int .i64 x.t3) ∧ w.cell? ⟨b, 11, none⟩ = some (.int .i64 x.t4) ∧ w.cell? ⟨b, 12, none⟩ = some (.int .i64 x.tol) ∧ w.cell? ⟨b, 13, none⟩ = some (.int .i64 x.most) ∧ w.cell? ⟨b, 14, none⟩ = some (.slice (some ⟨gl, 0, none⟩) x.zs.length lc) ∧ w.cell? ⟨b, 15, none⟩ = some (.slice (some ⟨gs, 0, none⟩) x.zs.length sc) ∧ w.cell? ⟨b, 16, none⟩ = some (.int .i64 sum) ∧ w.cell? ⟨b, 17, none⟩ = some (.bool first) ∧ w.cell? ⟨b, 18, none⟩ = some (.int .i64 s.count) ∧ ∀ j, w.frozen? ⟨b, j, none⟩ = false := by
  obtain ⟨fA, fc, h1, _⟩ := h.st
  exact ⟨by simp [World.cell?, h1], by simp [World.cell?, h1], by simp [World.cell?, h1], by simp [World.cell?, h1], by simp [World.cell?, h1], by simp [World.cell?, h1], by simp [World.cell?, h1], by simp [World.cell?, h1], by simp [World.cell?, h1], by simp [World.cell?, h1], by simp [World.cell?, h1], by simp [World.cell?, h1], by simp [World.cell?, h1], by simp [World.cell?, h1], by simp [World.cell?, h1], by simp [World.cell?, h1], by simp [World.cell?, h1], by simp [World.cell?, h1], by simp [World.cell?, h1], fun j => by simp [World.frozen?, h1]⟩
theorem CuI.fnd (h : CuI x w0 b gl lc gs sc sum first w ss s) : ∃ fA fc, w.cell? ⟨b, 19, none⟩ = some (.slice fA s.found.length fc) ∧ OwnI w (b + 1) (.slice fA s.found.length fc) s.found := by
  obtain ⟨fA, fc, h1, h2⟩ := h.st
  exact ⟨fA, fc, by simp [World.cell?, h1], h2⟩
end
/-- Whether steps of some sum are tried. -/
def triB (sum : Int) (n z : Nat) (m : Int) : Bool := decide (sum < 0) || (decide (m ≤ sum) && (decide (z + 1 < n) || decide (m = sum)))
theorem tried_eq {q : Q} {l : List Int} {k : Nat} {n : Nat} (hn : q.lim.length = n) : tried q (l ++ [(k : Int)]) = triB q.sum n l.length (sumA l + k) := by
  unfold tried triB
  rw [sumA_snoc, hn, List.length_append, List.length_singleton]
set_option maxRecDepth 100000 in
theorem isTried_is {x : Cx} {w0 w : World} {b gl lc gs sc : Nat} {sum : Int} {first : Bool} {ss : List Int} {s : S} (z : Nat) (m : Int) (v : Bool) (HS : Hid (CuI x w0 b gl lc gs sc sum first w ss s)) (hn : 1 ≤ x.zs.length) (hn8 : x.zs.length ≤ 8) (hv : Hid (triB sum x.zs.length z m = v)) :
    Calls Tryz.prog 97 #[.pointer (some ⟨b, 0, none⟩), .int .i64 z, .int .i64 m] w fun e w' => e = .returned (.bool v) ∧ w = w' := by
  obtain ⟨k0, k1, k2, k3, k4, k5, k6, k7, k8, k9, k10, k11, k12, k13, k14, k15, k16, k17, k18, kf⟩ := HS.out.all
  clear k0 k1 k2 k3 k4 k5 k6 k7 k8 k9 k10 k11 k12 k13 k14 k17 k18 kf
  by_cases h1 : sum < 0
  · have E := hide (show v = true from by rw [← hv.out]; unfold triB; simp [h1])
    go_enter Tryz.func97, Tryz.ntmps97
    go_wp2_with fail
    go_ret
    exact ⟨ret_bool E.out.symm, rfl⟩
  · by_cases h2 : m ≤ sum
    · by_cases h3 : z + 1 < x.zs.length
      · have E := hide (show v = true from by rw [← hv.out]; unfold triB; simp [h2, h3])
        have h3i : (z : Int) < (x.zs.length : Int) - 1 := by omega
        go_enter Tryz.func97, Tryz.ntmps97
        go_wp2_with fail
        go_ret
        exact ⟨ret_bool E.out.symm, rfl⟩
      · have h3i : ¬ (z : Int) < (x.zs.length : Int) - 1 := by omega
        have E := hide (show v = decide (m = sum) from by rw [← hv.out]; unfold triB; simp [h1, h2, h3])
        by_cases h4 : m = sum
        · have E2 := hide (show v = true from by rw [E.out]; simp [h4])
          have h5 : (m == sum) = true := by simpa using h4
          clear h4
          go_enter Tryz.func97, Tryz.ntmps97
          go_wp2_with fail
          go_ret
          exact ⟨ret_bool E2.out.symm, rfl⟩
        · have E2 := hide (show v = false from by rw [E.out]; simp [h4])
          have h5 : (m == sum) = false := by simpa using h4
          clear h4
          go_enter Tryz.func97, Tryz.ntmps97
          go_wp2_with fail
          go_ret
          exact ⟨ret_bool E2.out.symm, rfl⟩
    · have E := hide (show v = false from by rw [← hv.out]; unfold triB; simp [h1, h2])
      go_enter Tryz.func97, Tryz.ntmps97
      go_wp2_with fail
      go_ret
      exact ⟨ret_bool E.out.symm, rfl⟩
set_option maxRecDepth 100000 in
theorem done_is {x : Cx} {w0 w : World} {b gl lc gs sc : Nat} {sum : Int} {first : Bool} {ss : List Int} {s : S} (v : Bool) (HS : Hid (CuI x w0 b gl lc gs sc sum first w ss s)) (hv : Hid ((s.spent || (first && decide (0 < s.count))) = v)) :
    Calls Tryz.prog 44 #[.pointer (some ⟨b, 0, none⟩)] w fun e w' => e = .returned (.bool v) ∧ w = w' := by
  obtain ⟨k0, k1, k2, k3, k4, k5, k6, k7, k8, k9, k10, k11, k12, k13, k14, k15, k16, k17, k18, kf⟩ := HS.out.all
  clear k0 k2 k3 k4 k5 k6 k7 k8 k9 k10 k11 k12 k13 k14 k15 k16 kf
  obtain ⟨left, spent, count, found, least⟩ := s
  simp only at k1 k18 hv
  clear HS
  cases spent
  · cases first
    · have E := hide (show v = false from by rw [← hv.out]; rfl)
      go_enter Tryz.func44, Tryz.ntmps44
      go_wp2_with fail
      go_ret
      exact ⟨ret_bool E.out.symm, rfl⟩
    · have E := hide (show v = decide (0 < count) from by rw [← hv.out]; simp)
      go_enter Tryz.func44, Tryz.ntmps44
      go_wp2_with fail
      go_ret
      exact ⟨ret_bool E.out.symm, rfl⟩
  · have E := hide (show v = true from by rw [← hv.out]; rfl)
    go_enter Tryz.func44, Tryz.ntmps44
    go_wp2_with fail
    go_ret
    exact ⟨ret_bool E.out.symm, rfl⟩
theorem node_none (b : Nat) (s : Bool) (w : World) (c0 : w.cell? ⟨b, 0, none⟩ = some (.int .i64 0)) (c1 : w.cell? ⟨b, 1, none⟩ = some (.bool s)) (f1 : w.frozen? ⟨b, 1, none⟩ = false) :
    Calls Tryz.prog 98 #[.pointer (some ⟨b, 0, none⟩)] w fun e w' => e = .returned (.bool false) ∧ w.setCell ⟨b, 1, none⟩ (.bool true) = w' := by
  go_enter Tryz.func98, Tryz.ntmps98
  go_wp2_with fail
  go_ret
  exact ⟨rfl, rfl⟩
theorem node_some (b : Nat) (n : Int) (w : World) (h0 : n ≠ 0) (h1 : 0 ≤ n) (h2 : n ≤ 1000000000) (c0 : w.cell? ⟨b, 0, none⟩ = some (.int .i64 n)) (f0 : w.frozen? ⟨b, 0, none⟩ = false) :
    Calls Tryz.prog 98 #[.pointer (some ⟨b, 0, none⟩)] w fun e w' => e = .returned (.bool true) ∧ w.setCell ⟨b, 0, none⟩ (.int .i64 (n - 1)) = w' := by
  have e : (n == 0) = false := by simpa using h0
  clear h0
  go_enter Tryz.func98, Tryz.ntmps98
  go_wp2_with fail
  go_ret
  exact ⟨rfl, rfl⟩
end Go.Proofs.YtnefgafmnpblpaaGreat
