/- What the laws of sways draw: a tower with swings, a tower with a swing and a limit. -/
import Derived.Test.YtjklhacffdhgaaaRowSw
import Derived.Deep.AppendLies
import Derived.Deep.RegionLaw
namespace Go.Proofs.Ytjklhacffdhgaaa
open Go.RowKit

/-- A source made for bytes below B, in a world of at least B blocks. -/
theorem specl00From_at (B : Nat) (A : Option Addr) (n c : Nat) (w : World) (h : ByAt w B A n) (hn : n ≤ 9223372036854775807) (hB : B ≤ w.heap.size) :
    Calls Try.prog 82 #[.slice A n c] w fun e w' => e = .returned (.pointer (some ⟨w.heap.size, 0, none⟩)) ∧ Src w' B w.heap.size 0 ∧ Below w.heap.size w w' := by
  have HX := hide h
  clear h
  go_enter Try.func82, Try.ntmps82
  go_wp2_with fail
  go_ret
  exact ⟨rfl, ⟨hB, A, n, c, 0, 0, ⟨by go_simp, by go_simp, by go_simp, by go_simp, by go_simp⟩, HX.out.below (by repeat (first | with_reducible exact Below.refl _ _ | with_reducible assumption | (with_reducible refine Below.drew ?_) | (with_reducible refine below_drewN ?_ _) | ((with_reducible refine Below.alloc ?_ ?_ _); rotate_left; (focus (first | omega | (simp; omega) | simp))) | ((with_reducible refine Below.setCell ?_ ?_ _); rotate_left; (focus (first | omega | (simp; omega) | simp))) | (refine Below.trans ?_ (Below.mono (by assumption) (by first | omega | (simp; omega) | simp))))), hn, by omega, by omega⟩, (by repeat (first | with_reducible exact Below.refl _ _ | with_reducible assumption | (with_reducible refine Below.drew ?_) | (with_reducible refine below_drewN ?_ _) | ((with_reducible refine Below.alloc ?_ ?_ _); rotate_left; (focus (first | omega | (simp; omega) | simp))) | ((with_reducible refine Below.setCell ?_ ?_ _); rotate_left; (focus (first | omega | (simp; omega) | simp))) | (refine Below.trans ?_ (Below.mono (by assumption) (by first | omega | (simp; omega) | simp)))))⟩
theorem ByAt.alloc {w : World} {B : Nat} {A : Option Addr} {n : Nat} (h : ByAt w B A n) (hB : B ≤ w.heap.size) (o : Obj) : ByAt (w.alloc o) B A n := h.below ((Below.refl _ _).alloc hB _)
theorem srcOne (B b N : Nat) (n : Int) (w : World) (h : Src w B b N) (hN : N ≤ 1000000) (hn : n ≤ 1000000) :
    Calls Try.prog 121 #[.pointer (some ⟨b, 0, none⟩), .int .i64 n] w fun e w' => ∃ d : Bool, e = .returned (.bool d) ∧ Src w' B b (N + 2) ∧ Below B w w' ∧ w.grownBy w' (some b) := by
  have HS := hide h
  clear h
  go_enter Try.func121, Try.ntmps121
  go_wp2_with fail
  refine (srcPick B b N n _ HS.out hN hn).mono ?_
  rintro e w1 ⟨r, rfl, -, -, hS1, hb1, hg1⟩
  have H1 := hide (And.intro hS1 (And.intro hb1 hg1))
  clear hS1 hb1 hg1
  go_wp2_with fail
  go_ret
  exact ⟨_, rfl, H1.out.1, H1.out.2.1, H1.out.2.2⟩
theorem cellD {w : World} {b j : Nat} {vs : Array Value} {T : TypeId} {v : Value} (h : w.heap[b]? = some (.cells vs T (0, 0))) (hv : vs[j]? = some v) : w.drew.cell? ⟨b, j, none⟩ = some v := by
  show w.cell? ⟨b, j, none⟩ = some v
  simp [World.cell?, h, hv]
theorem frozD {w : World} {b j : Nat} {vs : Array Value} {T : TypeId} (h : w.heap[b]? = some (.cells vs T (0, 0))) : w.drew.frozen? ⟨b, j, none⟩ = false := by
  show w.frozen? ⟨b, j, none⟩ = false
  simp [World.frozen?, h]
theorem Src.setR {w : World} {B b N R : Nat} (h : Src w B b N) (hR : B ≤ R) (hne : R ≠ b) (j : Nat) (v : Value) : Src (w.setCell ⟨R, j, none⟩ v) B b N :=
  h.kept (grown_set (grown_refl _ _) j v) ((Below.refl _ _).setCell hR v) (by simpa using Ne.symm hne)
set_option maxRecDepth 100000 in
set_option maxHeartbeats 1000000 in
theorem specDrawTotalSway (A : Option Addr) (n c : Nat) (w : World) (h : ByAt w w.heap.size A n) (hn : n ≤ 9223372036854775807) :
    Calls Try.prog 50 #[.slice A n c] w fun e w' => ∃ (nm : ByteArray) (a1 a2 a3 a4 : Int) (A' : Option Addr) (c' : Nat) (xs : List SwingR), e = .returned (.tuple #[.agg #[.string nm, .int .i64 a1, .int .i64 a2, .int .i64 a3, .int .i64 a4], .slice A' xs.length c']) ∧ nm.size ≤ 100 ∧ SlAt encSwing 3 w' A' xs ∧ xs.length ≤ 1000 ∧ Small xs ∧ Below w.heap.size w w' := by
  have HX := hide h
  clear h
  go_enter Try.func50, Try.ntmps50
  go_wp2_with fail
  refine (specl00From_at w.heap.size A n c _ (HX.out.alloc (Nat.le_refl _) _) hn (by simp)).mono ?_
  rintro e w1 ⟨rfl, hS1, hb1⟩
  have HR1 := hide (show w1.heap[w.heap.size]? = some (.cells #[.string ⟨#[]⟩, .int .i64 0, .int .i64 0, .int .i64 0, .int .i64 0] 56 (0, 0)) from (hb1.block w.heap.size (by simp)).trans (heap_alloc_new w _))
  have HS1 := hide (show Src w1 w.heap.size (w.heap.size + 1) 0 by simpa using hS1)
  have HB1 := hide (show Below w.heap.size w w1 from ((Below.refl _ _).alloc (Nat.le_refl _) _).trans (hb1.mono (by simp)))
  have hz1 := HS1.out.lt
  clear hS1 hb1
  go_wp2_with fail
  refine (specl22DrawTower w.heap.size (w.heap.size + 1) 0 _ HS1.out (by omega)).mono ?_
  rintro e w2 ⟨nm, a1, a2, a3, a4, rfl, hnm, hS2, hb2, hg2⟩
  have HR2 := hide ((hg2.block w.heap.size (by omega) (by simp)).trans HR1.out)
  have HS2 := hide hS2
  have HB2 := hide (HB1.out.trans hb2)
  clear hS2 hb2 hg2 HR1 HS1 HB1
  go_wp2_with fail
  refine (specl22BendTower w.heap.size (w.heap.size + 1) 10 nm a1 a2 a3 a4 _ HS2.out (by omega) hnm).mono ?_
  rintro e w3 ⟨nm', b1, b2, b3, b4, rfl, hnm', hS3, hb3, hg3⟩
  have hz3 := hS3.lt
  have HR3 := hide ((hg3.block w.heap.size (by have := HS2.out.lt; omega) (by simp)).trans HR2.out)
  have HB3 := hide (HB2.out.trans hb3)
  have HD := hide (show DrawSt 56 w.heap.size (w.heap.size + 1) w.heap.size w3.heap.size #[.string ⟨#[]⟩, .int .i64 0, .int .i64 0, .int .i64 0, .int .i64 0] w (w3.alloc (.cells #[.string nm', .int .i64 b1, .int .i64 b2, .int .i64 b3, .int .i64 b4] 56)) 14 #[.string nm', .int .i64 b1, .int .i64 b2, .int .i64 b3, .int .i64 b4] from
    ⟨hS3.below (by repeat (first | with_reducible exact Below.refl _ _ | with_reducible assumption | (with_reducible refine Below.drew ?_) | (with_reducible refine below_drewN ?_ _) | ((with_reducible refine Below.alloc ?_ ?_ _); rotate_left; (focus (first | omega | (simp; omega) | simp))) | ((with_reducible refine Below.setCell ?_ ?_ _); rotate_left; (focus (first | omega | (simp; omega) | simp))) | (refine Below.trans ?_ (Below.mono (by assumption) (by first | omega | (simp; omega) | simp))))), HB3.out.alloc (by omega) _, (heap_alloc_old _ _ (by omega)).trans HR3.out, heap_alloc_new w3 _⟩)
  clear hS3 hb3 hg3 HR2 HS2 HB2 HR3 HB3 hnm hz1
  go_wp2_with fail
  generalize w3.alloc (.cells #[.string nm', .int .i64 b1, .int .i64 b2, .int .i64 b3, .int .i64 b4] 56) = w4 at HD ⊢
  have hD := HD.out.below (w' := w4.drew) (Below.refl _ _).drew
  have HDd := hide hD
  have e0 := hD.cell 0 _ rfl
  have e1 := hD.cell 1 _ rfl
  have e2 := hD.cell 2 _ rfl
  have e3 := hD.cell 3 _ rfl
  have e4 := hD.cell 4 _ rfl
  have t0 := hD.rcell 0 _ rfl
  have t1 := hD.rcell 1 _ rfl
  have t2 := hD.rcell 2 _ rfl
  have t3 := hD.rcell 3 _ rfl
  have t4 := hD.rcell 4 _ rfl
  have y0 := hD.rfroz 0
  have y1 := hD.rfroz 1
  have y2 := hD.rfroz 2
  have y3 := hD.rfroz 3
  have y4 := hD.rfroz 4
  have hQl : w3.heap.size < w4.drew.heap.size := heap_lt hD.q
  have hRb : w.heap.size ≠ w.heap.size + 1 := by omega
  have hRl : w.heap.size < w4.drew.heap.size := by omega
  have HS5 := hide (((((hD.src.setR (Nat.le_refl _) hRb 0 (.string nm')).setR (Nat.le_refl _) hRb 1 (.int .i64 b1)).setR (Nat.le_refl _) hRb 2 (.int .i64 b2)).setR (Nat.le_refl _) hRb 3 (.int .i64 b3)).setR (Nat.le_refl _) hRb 4 (.int .i64 b4))
  clear hD HD
  go_region_law (first
    | (go_simp; go_at_call 114; refine (specl22Draw w.heap.size (w.heap.size + 1) 14 _ (by first | exact HDd.out.src | exact HS5.out) (by omega)).mono ?_; rintro e w5 ⟨A', c', xs, rfl, hA, hAg, hxl, hsm, _hS, hb, hg⟩; have fcQ := fun j => World.cell?_of_block (a := ⟨w3.heap.size, j, none⟩) (hg.block w3.heap.size (by first | exact hQl | simpa using hQl) (by simp; omega)); have fcR := fun j => World.cell?_of_block (a := ⟨w.heap.size, j, none⟩) (hg.block w.heap.size (by first | exact hRl | simpa using hRl) (by simp)); have ffR := fun j => World.frozen?_of_block (a := ⟨w.heap.size, j, none⟩) (hg.block w.heap.size (by first | exact hRl | simpa using hRl) (by simp))))
  all_goals
    go_wp2_with fail
    refine bodyPost_ret (v := .tuple #[.agg #[.string nm', .int .i64 b1, .int .i64 b2, .int .i64 b3, .int .i64 b4], .slice A' xs.length c']) (by simp [results, Try.results50, go_sem, fcR, t0, t1, t2, t3, t4]) rfl ⟨nm', _, _, _, _, A', c', xs, rfl, hnm', ?_, hxl, hsm, ?_⟩
    · refine SlAt.grown (row := some w.heap.size) hA (by repeat (first | exact grown_refl _ _ | refine grown_set ?_ _ _)) fun g o e q => ?_
      injection q with q
      have hq := hAg g o e
      first | omega | (simp at hq; omega)
    · have hbel := HDd.out.bel
      exact (by repeat (first | with_reducible exact Below.refl _ _ | with_reducible assumption | (with_reducible refine Below.drew ?_) | (with_reducible refine below_drewN ?_ _) | ((with_reducible refine Below.alloc ?_ ?_ _); rotate_left; (focus (first | omega | (simp; omega) | simp))) | ((with_reducible refine Below.setCell ?_ ?_ _); rotate_left; (focus (first | omega | (simp; omega) | simp))) | (refine Below.trans ?_ (Below.mono (by assumption) (by first | omega | (simp; omega) | simp)))))
set_option maxRecDepth 100000 in
set_option maxHeartbeats 1000000 in
theorem specDrawSafeRate (A : Option Addr) (n c : Nat) (w : World) (h : ByAt w w.heap.size A n) (hn : n ≤ 9223372036854775807) :
    Calls Try.prog 53 #[.slice A n c] w fun e w' => ∃ (nm : ByteArray) (a1 a2 a3 a4 : Int) (bell : ByteArray) (rt fo aw : Int), e = .returned (.tuple #[.agg #[.string nm, .int .i64 a1, .int .i64 a2, .int .i64 a3, .int .i64 a4], .agg #[.string bell, .int .i64 rt, .int .i64 fo], .int .i64 aw]) ∧ nm.size ≤ 100 ∧ bell.size ≤ 100 ∧ Below w.heap.size w w' := by
  have HX := hide h
  clear h
  go_enter Try.func53, Try.ntmps53
  go_wp2_with fail
  refine (specl00From_at w.heap.size A n c _ ((HX.out.alloc (Nat.le_refl _) _).alloc (by simp) _) hn (by simp; omega)).mono ?_
  rintro e w1 ⟨rfl, hS1, hb1⟩
  have HR1 := hide (show w1.heap[w.heap.size]? = some (.cells #[.string ⟨#[]⟩, .int .i64 0, .int .i64 0, .int .i64 0, .int .i64 0] 56 (0, 0)) from (hb1.block w.heap.size (by simp; omega)).trans ((heap_alloc_old _ _ (by simp)).trans (heap_alloc_new w _)))
  have HP1 := hide (show w1.heap[w.heap.size + 1]? = some (.cells #[.string ⟨#[]⟩, .int .i64 0, .int .i64 0] 77 (0, 0)) from (hb1.block (w.heap.size + 1) (by simp)).trans (by have q := heap_alloc_new (w.alloc (.cells #[.string ⟨#[]⟩, .int .i64 0, .int .i64 0, .int .i64 0, .int .i64 0] 56)) (.cells #[.string ⟨#[]⟩, .int .i64 0, .int .i64 0] 77); simpa using q))
  have HS1 := hide (show Src w1 w.heap.size (w.heap.size + 2) 0 by simpa using hS1)
  have HB1 := hide (show Below w.heap.size w w1 from (((Below.refl _ _).alloc (Nat.le_refl _) _).alloc (by simp) _).trans (hb1.mono (by simp; omega)))
  have hz1 := HS1.out.lt
  clear hS1 hb1
  go_wp2_with fail
  refine (specl22DrawTower w.heap.size (w.heap.size + 2) 0 _ HS1.out (by omega)).mono ?_
  rintro e w2 ⟨nm, a1, a2, a3, a4, rfl, hnm, hS2, hb2, hg2⟩
  have HR2 := hide ((hg2.block w.heap.size (by omega) (by simp)).trans HR1.out)
  have HP2 := hide ((hg2.block (w.heap.size + 1) (by omega) (by simp)).trans HP1.out)
  have HS2 := hide hS2
  have HB2 := hide (HB1.out.trans hb2)
  have hz2 := hS2.lt
  clear hS2 hb2 hg2 HR1 HP1 HS1 HB1
  go_wp2_with fail
  refine (specl22BendTower w.heap.size (w.heap.size + 2) 10 nm a1 a2 a3 a4 _ HS2.out (by omega) hnm).mono ?_
  rintro e w3 ⟨nm', b1, b2, b3, b4, rfl, hnm', hS3, hb3, hg3⟩
  have hz3 := hS3.lt
  have HP3 := hide ((hg3.block (w.heap.size + 1) (by omega) (by simp)).trans HP2.out)
  have HR3 := hide ((hg3.block w.heap.size (by omega) (by simp)).trans HR2.out)
  have HB3 := hide (HB2.out.trans hb3)
  have hs3 := hS3.below (w' := w3.alloc (.cells #[.string nm', .int .i64 b1, .int .i64 b2, .int .i64 b3, .int .i64 b4] 56)) (by repeat (first | with_reducible exact Below.refl _ _ | with_reducible assumption | (with_reducible refine Below.drew ?_) | (with_reducible refine below_drewN ?_ _) | ((with_reducible refine Below.alloc ?_ ?_ _); rotate_left; (focus (first | omega | (simp; omega) | simp))) | ((with_reducible refine Below.setCell ?_ ?_ _); rotate_left; (focus (first | omega | (simp; omega) | simp))) | (refine Below.trans ?_ (Below.mono (by assumption) (by first | omega | (simp; omega) | simp)))))
  have HS3 := hide hs3
  have HBx := hide (HB3.out.alloc (Nat.le_of_lt (Nat.lt_trans (by omega) hz3)) (.cells #[.string nm', .int .i64 b1, .int .i64 b2, .int .i64 b3, .int .i64 b4] 56))
  have HQ3 := hide (heap_alloc_new w3 (.cells #[.string nm', .int .i64 b1, .int .i64 b2, .int .i64 b3, .int .i64 b4] 56))
  have HR4 := hide ((heap_alloc_old w3 (.cells #[.string nm', .int .i64 b1, .int .i64 b2, .int .i64 b3, .int .i64 b4] 56) (show w.heap.size < w3.heap.size by omega)).trans HR3.out)
  have HP4 := hide ((heap_alloc_old w3 (.cells #[.string nm', .int .i64 b1, .int .i64 b2, .int .i64 b3, .int .i64 b4] 56) (show w.heap.size + 1 < w3.heap.size by omega)).trans HP3.out)
  clear hs3 hS3 hb3 hg3 HR2 HP2 HS2 HB2 HR3 HP3 HB3 hnm hz1 hz2
  go_wp2_with fail
  generalize hw4 : w3.alloc (.cells #[.string nm', .int .i64 b1, .int .i64 b2, .int .i64 b3, .int .i64 b4] 56) = w4 at *
  have hz4 : w3.heap.size < w4.heap.size := by rw [← hw4]; simp
  clear hw4
  generalize hk3 : w3.heap.size = k3 at *
  clear hk3
  refine (specl22DrawOne w.heap.size (w.heap.size + 2) 14 _ HS3.out (by omega)).mono ?_
  rintro e w5 ⟨bell, r1, r2, rfl, hbell, hS5, hb5, hg5⟩
  have HR5 := hide ((hg5.block w.heap.size (by omega) (by simp)).trans HR4.out)
  have HP5 := hide ((hg5.block (w.heap.size + 1) (by omega) (by simp)).trans HP4.out)
  have HQ5 := hide ((hg5.block k3 (by omega) (by simp; omega)).trans HQ3.out)
  have HS5 := hide hS5
  have HB5 := hide (HBx.out.trans hb5)
  have hz5 := hg5.size
  clear hS5 hb5 hg5 HR4 HP4 HQ3 HS3 HBx
  go_wp2_with fail
  refine (specl22Bend w.heap.size (w.heap.size + 2) _ bell r1 r2 _ HS5.out (by omega) hbell).mono ?_
  rintro e w6 ⟨bell', s1, s2, rfl, hbell', hS6, hb6, hg6⟩
  have hz6 := hS6.lt
  have hzz := hg6.size
  have HR6 := hide ((heap_alloc_old w6 (.cells #[.string bell', .int .i64 s1, .int .i64 s2] 77) (show w.heap.size < w6.heap.size by omega)).trans ((hg6.block w.heap.size (by omega) (by simp)).trans HR5.out))
  have HP6 := hide ((heap_alloc_old w6 (.cells #[.string bell', .int .i64 s1, .int .i64 s2] 77) (show w.heap.size + 1 < w6.heap.size by omega)).trans ((hg6.block (w.heap.size + 1) (by omega) (by simp)).trans HP5.out))
  have HQ6 := hide ((heap_alloc_old w6 (.cells #[.string bell', .int .i64 s1, .int .i64 s2] 77) (show k3 < w6.heap.size by omega)).trans ((hg6.block k3 (by omega) (by simp; omega)).trans HQ5.out))
  have HU6 := hide (heap_alloc_new w6 (.cells #[.string bell', .int .i64 s1, .int .i64 s2] 77))
  have HS6 := hide (hS6.below (w' := w6.alloc (.cells #[.string bell', .int .i64 s1, .int .i64 s2] 77)) (by repeat (first | with_reducible exact Below.refl _ _ | with_reducible assumption | (with_reducible refine Below.drew ?_) | (with_reducible refine below_drewN ?_ _) | ((with_reducible refine Below.alloc ?_ ?_ _); rotate_left; (focus (first | omega | (simp; omega) | simp))) | ((with_reducible refine Below.setCell ?_ ?_ _); rotate_left; (focus (first | omega | (simp; omega) | simp))) | (refine Below.trans ?_ (Below.mono (by assumption) (by first | omega | (simp; omega) | simp))))))
  have HB6 := hide ((HB5.out.trans hb6).alloc (show w.heap.size ≤ w6.heap.size by omega) (.cells #[.string bell', .int .i64 s1, .int .i64 s2] 77))
  clear hS6 hb6 hg6 HR5 HP5 HQ5 HS5 HB5 hbell
  go_wp2_with fail
  generalize hw7 : w6.alloc (.cells #[.string bell', .int .i64 s1, .int .i64 s2] 77) = w7 at *
  have hz7 : w6.heap.size < w7.heap.size := by rw [← hw7]; simp
  clear hw7
  generalize hk6 : w6.heap.size = k6 at *
  clear hk6
  refine (srcPick w.heap.size (w.heap.size + 2) _ 400 _ HS6.out (by omega) (by omega)).mono ?_
  rintro e w8 ⟨p, rfl, p0, p1, hS8, hb8, hg8⟩
  have HR8 := hide ((hg8.block w.heap.size (by omega) (by simp)).trans HR6.out)
  have HP8 := hide ((hg8.block (w.heap.size + 1) (by omega) (by simp)).trans HP6.out)
  have HQ8 := hide ((hg8.block k3 (by omega) (by simp; omega)).trans HQ6.out)
  have HU8 := hide ((hg8.block k6 (by omega) (by simp; omega)).trans HU6.out)
  have HS8 := hide hS8
  have HB8 := hide (HB6.out.trans hb8)
  have hz8 := hg8.size
  clear hS8 hb8 hg8 HR6 HP6 HQ6 HU6 HS6 HB6 p0 p1
  go_wp2_with fail
  refine (srcOne w.heap.size (w.heap.size + 2) _ 8 _ HS8.out (by omega) (by omega)).mono ?_
  rintro e w9 ⟨d, rfl, hS9, hb9, hg9⟩
  have HR := hide ((hg9.block w.heap.size (by omega) (by simp)).trans HR8.out)
  have HP := hide ((hg9.block (w.heap.size + 1) (by omega) (by simp)).trans HP8.out)
  have HQ := hide ((hg9.block k3 (by omega) (by simp; omega)).trans HQ8.out)
  have HU := hide ((hg9.block k6 (by omega) (by simp; omega)).trans HU8.out)
  have HS := hide hS9
  have HB := hide (HB8.out.trans hb9)
  have hz9 := hg9.size
  clear hS9 hb9 hg9 HR8 HP8 HQ8 HU8 HS8 HB8
  cases d
  · clear HS
    have e0 : w9.cell? ⟨k3, 0, none⟩ = some (.string nm') := cellD HQ.out rfl
    have e1 : w9.cell? ⟨k3, 1, none⟩ = some (.int .i64 b1) := cellD HQ.out rfl
    have e2 : w9.cell? ⟨k3, 2, none⟩ = some (.int .i64 b2) := cellD HQ.out rfl
    have e3 : w9.cell? ⟨k3, 3, none⟩ = some (.int .i64 b3) := cellD HQ.out rfl
    have e4 : w9.cell? ⟨k3, 4, none⟩ = some (.int .i64 b4) := cellD HQ.out rfl
    have u0 : w9.cell? ⟨k6, 0, none⟩ = some (.string bell') := cellD HU.out rfl
    have u1 : w9.cell? ⟨k6, 1, none⟩ = some (.int .i64 s1) := cellD HU.out rfl
    have u2 : w9.cell? ⟨k6, 2, none⟩ = some (.int .i64 s2) := cellD HU.out rfl
    have t0 : w9.cell? ⟨w.heap.size, 0, none⟩ = some (.string ⟨#[]⟩) := cellD HR.out rfl
    have y0 : w9.frozen? ⟨w.heap.size, 0, none⟩ = false := frozD HR.out
    have t1 : w9.cell? ⟨w.heap.size, 1, none⟩ = some (.int .i64 0) := cellD HR.out rfl
    have y1 : w9.frozen? ⟨w.heap.size, 1, none⟩ = false := frozD HR.out
    have t2 : w9.cell? ⟨w.heap.size, 2, none⟩ = some (.int .i64 0) := cellD HR.out rfl
    have y2 : w9.frozen? ⟨w.heap.size, 2, none⟩ = false := frozD HR.out
    have t3 : w9.cell? ⟨w.heap.size, 3, none⟩ = some (.int .i64 0) := cellD HR.out rfl
    have y3 : w9.frozen? ⟨w.heap.size, 3, none⟩ = false := frozD HR.out
    have t4 : w9.cell? ⟨w.heap.size, 4, none⟩ = some (.int .i64 0) := cellD HR.out rfl
    have y4 : w9.frozen? ⟨w.heap.size, 4, none⟩ = false := frozD HR.out
    have q0 : w9.cell? ⟨w.heap.size + 1, 0, none⟩ = some (.string ⟨#[]⟩) := cellD HP.out rfl
    have z0 : w9.frozen? ⟨w.heap.size + 1, 0, none⟩ = false := frozD HP.out
    have q1 : w9.cell? ⟨w.heap.size + 1, 1, none⟩ = some (.int .i64 0) := cellD HP.out rfl
    have z1 : w9.frozen? ⟨w.heap.size + 1, 1, none⟩ = false := frozD HP.out
    have q2 : w9.cell? ⟨w.heap.size + 1, 2, none⟩ = some (.int .i64 0) := cellD HP.out rfl
    have z2 : w9.frozen? ⟨w.heap.size + 1, 2, none⟩ = false := frozD HP.out
    go_wp2_with fail
    go_region
    all_goals
      go_wp2_with fail
      refine bodyPost_ret (v := .tuple #[.agg #[.string nm', .int .i64 b1, .int .i64 b2, .int .i64 b3, .int .i64 b4], .agg #[.string bell', .int .i64 s1, .int .i64 s2], .int .i64 p]) (by simp [results, Try.results53, go_sem, t0, t1, t2, t3, t4, q0, q1, q2]) rfl ⟨nm', _, _, _, _, bell', _, _, _, rfl, hnm', hbell', ?_⟩
      have hbel := HB.out
      exact (by repeat (first | with_reducible exact Below.refl _ _ | with_reducible assumption | (with_reducible refine Below.drew ?_) | (with_reducible refine below_drewN ?_ _) | ((with_reducible refine Below.alloc ?_ ?_ _); rotate_left; (focus (first | omega | (simp; omega) | simp))) | ((with_reducible refine Below.setCell ?_ ?_ _); rotate_left; (focus (first | omega | (simp; omega) | simp))) | (refine Below.trans ?_ (Below.mono (by assumption) (by first | omega | (simp; omega) | simp)))))
  · go_wp2_with fail
    have HSa := hide (HS.out.below (w' := w9.alloc (.cells #[.int .i64 (-1), .int .i64 0, .int .i64 1000000, .int .i64 1000001] 2)) (by repeat (first | with_reducible exact Below.refl _ _ | with_reducible assumption | (with_reducible refine Below.drew ?_) | (with_reducible refine below_drewN ?_ _) | ((with_reducible refine Below.alloc ?_ ?_ _); rotate_left; (focus (first | omega | (simp; omega) | simp))) | ((with_reducible refine Below.setCell ?_ ?_ _); rotate_left; (focus (first | omega | (simp; omega) | simp))) | (refine Below.trans ?_ (Below.mono (by assumption) (by first | omega | (simp; omega) | simp))))))
    refine (srcamong w.heap.size (w.heap.size + 2) _ (some ⟨w9.heap.size, 0, none⟩) _ [-1, 0, 1000000, 1000001] _ HSa.out (by omega) ?_ ?_ (by decide) (by decide)).mono ?_
    · exact slat_new (enc := encI) (sz := 1) (fun _ => rfl) w9 [-1, 0, 1000000, 1000001] #[.int .i64 (-1), .int .i64 0, .int .i64 1000000, .int .i64 1000001] 2 rfl
    · intro b2 off e
      injection e with e; injection e with e _; omega
    rintro e w10 ⟨x, rfl, -, hS10, hb10, hg10⟩
    have HR' := hide ((hg10.block w.heap.size (by simp; omega) (by simp)).trans ((heap_alloc_old _ _ (by omega)).trans HR.out))
    have HP' := hide ((hg10.block (w.heap.size + 1) (by simp; omega) (by simp)).trans ((heap_alloc_old _ _ (by omega)).trans HP.out))
    have HQ' := hide ((hg10.block k3 (by simp; omega) (by simp; omega)).trans ((heap_alloc_old _ _ (by omega)).trans HQ.out))
    have HU' := hide ((hg10.block k6 (by simp; omega) (by simp; omega)).trans ((heap_alloc_old _ _ (by omega)).trans HU.out))
    have HB' := hide ((HB.out.alloc (show w.heap.size ≤ w9.heap.size by omega) _).trans hb10)
    clear hS10 hb10 hg10 HR HP HQ HU HB HSa
    have HR := HR'; have HP := HP'; have HQ := HQ'; have HU := HU'; have HB := HB'
    clear HR' HP' HQ' HU' HB'
    clear HS
    have e0 : w10.cell? ⟨k3, 0, none⟩ = some (.string nm') := cellD HQ.out rfl
    have e1 : w10.cell? ⟨k3, 1, none⟩ = some (.int .i64 b1) := cellD HQ.out rfl
    have e2 : w10.cell? ⟨k3, 2, none⟩ = some (.int .i64 b2) := cellD HQ.out rfl
    have e3 : w10.cell? ⟨k3, 3, none⟩ = some (.int .i64 b3) := cellD HQ.out rfl
    have e4 : w10.cell? ⟨k3, 4, none⟩ = some (.int .i64 b4) := cellD HQ.out rfl
    have u0 : w10.cell? ⟨k6, 0, none⟩ = some (.string bell') := cellD HU.out rfl
    have u1 : w10.cell? ⟨k6, 1, none⟩ = some (.int .i64 s1) := cellD HU.out rfl
    have u2 : w10.cell? ⟨k6, 2, none⟩ = some (.int .i64 s2) := cellD HU.out rfl
    have t0 : w10.cell? ⟨w.heap.size, 0, none⟩ = some (.string ⟨#[]⟩) := cellD HR.out rfl
    have y0 : w10.frozen? ⟨w.heap.size, 0, none⟩ = false := frozD HR.out
    have t1 : w10.cell? ⟨w.heap.size, 1, none⟩ = some (.int .i64 0) := cellD HR.out rfl
    have y1 : w10.frozen? ⟨w.heap.size, 1, none⟩ = false := frozD HR.out
    have t2 : w10.cell? ⟨w.heap.size, 2, none⟩ = some (.int .i64 0) := cellD HR.out rfl
    have y2 : w10.frozen? ⟨w.heap.size, 2, none⟩ = false := frozD HR.out
    have t3 : w10.cell? ⟨w.heap.size, 3, none⟩ = some (.int .i64 0) := cellD HR.out rfl
    have y3 : w10.frozen? ⟨w.heap.size, 3, none⟩ = false := frozD HR.out
    have t4 : w10.cell? ⟨w.heap.size, 4, none⟩ = some (.int .i64 0) := cellD HR.out rfl
    have y4 : w10.frozen? ⟨w.heap.size, 4, none⟩ = false := frozD HR.out
    have q0 : w10.cell? ⟨w.heap.size + 1, 0, none⟩ = some (.string ⟨#[]⟩) := cellD HP.out rfl
    have z0 : w10.frozen? ⟨w.heap.size + 1, 0, none⟩ = false := frozD HP.out
    have q1 : w10.cell? ⟨w.heap.size + 1, 1, none⟩ = some (.int .i64 0) := cellD HP.out rfl
    have z1 : w10.frozen? ⟨w.heap.size + 1, 1, none⟩ = false := frozD HP.out
    have q2 : w10.cell? ⟨w.heap.size + 1, 2, none⟩ = some (.int .i64 0) := cellD HP.out rfl
    have z2 : w10.frozen? ⟨w.heap.size + 1, 2, none⟩ = false := frozD HP.out
    go_wp2_with fail
    go_region
    all_goals
      go_wp2_with fail
      refine bodyPost_ret (v := .tuple #[.agg #[.string nm', .int .i64 b1, .int .i64 b2, .int .i64 b3, .int .i64 b4], .agg #[.string bell', .int .i64 s1, .int .i64 s2], .int .i64 x]) (by simp [results, Try.results53, go_sem, t0, t1, t2, t3, t4, q0, q1, q2]) rfl ⟨nm', _, _, _, _, bell', _, _, _, rfl, hnm', hbell', ?_⟩
      have hbel := HB.out
      exact (by repeat (first | with_reducible exact Below.refl _ _ | with_reducible assumption | (with_reducible refine Below.drew ?_) | (with_reducible refine below_drewN ?_ _) | ((with_reducible refine Below.alloc ?_ ?_ _); rotate_left; (focus (first | omega | (simp; omega) | simp))) | ((with_reducible refine Below.setCell ?_ ?_ _); rotate_left; (focus (first | omega | (simp; omega) | simp))) | (refine Below.trans ?_ (Below.mono (by assumption) (by first | omega | (simp; omega) | simp)))))
end Go.Proofs.Ytjklhacffdhgaaa
