/- The walk of laws.FnFrames out of contracts (printed by genfr.py). Condition: the library's variables are laid. -/
import Derived.Test.YtajodbhbmfjmjaaGreatDoorFrQ
import Derived.Test.YtajodbhbmfjmjaaGreatDoorFrA
import Derived.Test.YtajodbhbmfjmjaaGreatDoorDepths
import Derived.Test.YtajodbhbmfjmjaaGreatDoorSame
import Derived.Test.YtajodbhbmfjmjaaGreatDoorRdBeam6
import Derived.Deep.DeepCutAuto
import Derived.Deep.RegionHeld3
namespace Go.Proofs.YtajodbhbmfjmjaaGreatDoor
open Go.RowKit Go.Lib

theorem ReactionsOf_is {nm : ByteArray} {span wd dp wood : Int} {A : Option Addr} {c : Nat} {ls : List LoadR} {w : World} (h : SlAt encLoad 2 w A ls) (hn : ls.length ≤ 1048576) (hs : nm.size ≤ maxLen) {a b k : Int} (e : reactB nm span wd dp wood ls = (a, b, k)) :
    Calls Tryz.prog 6 #[.agg #[.string nm, .int .i64 span, .int .i64 wd, .int .i64 dp, .int .i64 wood, .slice A ls.length c]] w fun e w' => e = .returned (.tuple #[.int .i64 a, .int .i64 b, .int .i64 k]) ∧ Below w.heap.size w w' := by
  have q := implReactionsOf nm span wd dp wood A c ls w h hn hs
  rw [e] at q
  exact q
theorem GreatestMoment_is {nm : ByteArray} {span wd dp wood : Int} {A : Option Addr} {c : Nat} {ls : List LoadR} {w : World} (h : SlAt encLoad 2 w A ls) (hn : ls.length ≤ 1048576) (hs : nm.size ≤ maxLen) {a b k : Int} (e : greatB nm span wd dp wood ls = (a, b, k)) :
    Calls Tryz.prog 9 #[.agg #[.string nm, .int .i64 span, .int .i64 wd, .int .i64 dp, .int .i64 wood, .slice A ls.length c]] w fun e w' => e = .returned (.tuple #[.int .i64 a, .int .i64 b, .int .i64 k]) ∧ Below w.heap.size w w' := by
  have q := implGreatestMoment nm span wd dp wood A c ls w h hn hs
  rw [e] at q
  exact q
theorem StressOf_is {nm : ByteArray} {span wd dp wood : Int} {A : Option Addr} {c : Nat} {ls : List LoadR} {w : World} (h : SlAt encLoad 2 w A ls) (hn : ls.length ≤ 1048576) (hs : nm.size ≤ maxLen) {a k : Int} (e : stressR nm span wd dp wood ls = (a, k)) :
    Calls Tryz.prog 14 #[.agg #[.string nm, .int .i64 span, .int .i64 wd, .int .i64 dp, .int .i64 wood, .slice A ls.length c]] w fun e w' => e = .returned (.tuple #[.int .i64 a, .int .i64 k]) ∧ Below w.heap.size w w' := by
  have q := implStressOf nm span wd dp wood A c ls w h hn hs
  rw [e] at q
  exact q
theorem BendingOf_is {nm : ByteArray} {span wd dp wood : Int} {A : Option Addr} {c : Nat} {ls : List LoadR} {w : World} (h : SlAt encLoad 2 w A ls) (hn : ls.length ≤ 1048576) (hs : nm.size ≤ maxLen) {a k : Int} (e : bendR nm span wd dp wood ls = (a, k)) :
    Calls Tryz.prog 15 #[.agg #[.string nm, .int .i64 span, .int .i64 wd, .int .i64 dp, .int .i64 wood, .slice A ls.length c]] w fun e w' => e = .returned (.tuple #[.int .i64 a, .int .i64 k]) ∧ Below w.heap.size w w' := by
  have q := implBendingOf nm span wd dp wood A c ls w h hn hs
  rw [e] at q
  exact q
theorem MomentAt_is {nm : ByteArray} {span wd dp wood : Int} {A : Option Addr} {c : Nat} {ls : List LoadR} {w : World} (h : SlAt encLoad 2 w A ls) (hn : ls.length ≤ 1048576) (hs : nm.size ≤ maxLen) {x a k : Int} (e : momAtB nm span wd dp wood ls x = (a, k)) :
    Calls Tryz.prog 8 #[.agg #[.string nm, .int .i64 span, .int .i64 wd, .int .i64 dp, .int .i64 wood, .slice A ls.length c], .int .i64 x] w fun e w' => e = .returned (.tuple #[.int .i64 a, .int .i64 k]) ∧ Below w.heap.size w w' := by
  have q := implMomentAt nm span wd dp wood A c ls w h hn hs x
  rw [e] at q
  exact q
theorem SameBeam_same (nm : ByteArray) (a b c d : Int) (A A' : Option Addr) (cp cp' : Nat) (ls : List LoadR) (w : World) (h : SlAt encLoad 2 w A ls) (h' : SlAt encLoad 2 w A' ls) (hn : ls.length ≤ 1048576) :
    Calls Tryz.prog 12 #[.agg #[.string nm, .int .i64 a, .int .i64 b, .int .i64 c, .int .i64 d, .slice A ls.length cp], .agg #[.string nm, .int .i64 a, .int .i64 b, .int .i64 c, .int .i64 d, .slice A' ls.length cp']] w fun e w' => e = .returned (.bool true) ∧ Below w.heap.size w w' := by
  have q := specSameBeam nm nm a b c d a b c d A A' cp cp' ls ls w h h' hn hn
  have e : sameBm nm nm a b c d a b c d ls ls = true := by unfold sameBm; exact dec_true ⟨rfl, rfl, rfl, rfl, rfl, rfl⟩
  rw [e] at q
  exact q
theorem react_vals {nm : ByteArray} {span wd dp wood : Int} {ls : List LoadR} (hv : vBeam nm span wd dp wood ls = true) : ∃ L R : Int, reactB nm span wd dp wood ls = (L, R, 0) ∧ L + R = sumB (·.wt) ls ∧ 0 ≤ L ∧ 0 ≤ R ∧ L + R ≤ 1600000 := by
  have hg := good_of hv
  obtain ⟨a, b⟩ := react_say hg
  have c := (sumB_take_bd (f := (·.wt)) (M := 200000) ls.length (fun l hl => by have := hg.l l hl; omega) (by omega) hg.n).2
  rw [List.take_length] at c
  exact ⟨_, _, by unfold reactB; rw [if_pos hv], by omega, by omega, a, by omega⟩
theorem frames_say {nm : ByteArray} {span wd dp wood x : Int} {ls : List LoadR} (hv : vBeam nm span wd dp wood ls = true) (hn : ls.length < 8) (x0 : 0 ≤ x) (x1 : x ≤ span) : ∃ m at_ most st be : Int,
    momAtB nm span wd dp wood ls x = (m, 0) ∧ momAtB nm span wd dp wood ls 0 = (0, 0) ∧ momAtB nm span wd dp wood ls span = (0, 0) ∧ greatB nm span wd dp wood ls = (at_, most, 0) ∧ stressR nm span wd dp wood ls = (st, 0) ∧ bendR nm span wd dp wood ls = (be, 0) ∧
    0 ≤ m ∧ m ≤ most ∧ 0 ≤ at_ ∧ at_ ≤ span ∧ ∀ a t, 0 ≤ a → a ≤ span → 1 ≤ t → t ≤ 9000 → vBeam nm span wd dp wood (insL ls (posL ls a) ⟨a, t⟩) = true ∧ addR nm span wd dp wood ls a t = ((nm, span, wd, dp, wood), insL ls (posL ls a) ⟨a, t⟩, 0) ∧
      ∃ m' st' be', momAtB nm span wd dp wood (insL ls (posL ls a) ⟨a, t⟩) x = (m', 0) ∧ stressR nm span wd dp wood (insL ls (posL ls a) ⟨a, t⟩) = (st', 0) ∧ bendR nm span wd dp wood (insL ls (posL ls a) ⟨a, t⟩) = (be', 0) ∧ m ≤ m' ∧ st ≤ st' ∧ be ≤ be' := by
  have hg := good_of hv
  have s1 := hg.s1
  have hm : ∀ (ls' : List LoadR) (p : Int), vBeam nm span wd dp wood ls' = true → 0 ≤ p → p ≤ span → momAtB nm span wd dp wood ls' p = (Pl.nr (momB span p ls') span, 0) := fun ls' p h p0 p1 => by
    unfold momAtB
    rw [if_pos h, inB_mk p0 p1]
    rfl
  have n0 : Pl.nr 0 span = 0 := by
    have a := Pl.nr_nonneg (a := 0) (b := span) (Int.le_refl _) (by omega)
    have b := Pl.nr_le (a := 0) (b := span) (c := 0) (by omega) (by omega) (Int.le_refl _)
    omega
  have hb := gmB_bd' hg
  have hmb := momB_bd hg.s2 x0 x1 hg.l hg.n
  refine ⟨_, _, _, _, _, hm ls x hv x0 x1, ?_, ?_, by unfold greatB; rw [if_pos hv], by unfold stressR; rw [if_pos hv], by unfold bendR; rw [if_pos hv], Pl.nr_nonneg hmb.1 (by omega), Pl.nr_mono (by omega) (momB_max hg x0 x1), hb.1.1, hb.1.2, fun a t a0 a1 t0 t1 => ?_⟩
  · rw [hm ls 0 hv (Int.le_refl _) (by omega), momB_zero fun l hl => (hg.l l hl).1.1, n0]
  · rw [hm ls span hv (by omega) (Int.le_refl _), momB_span fun l hl => (hg.l l hl).1.2, n0]
  · have hld : ldOk span a t = true := by unfold ldOk; rw [inB_mk a0 a1, inB_mk t0 (by omega)]; rfl
    have hv2 := vBeam_ins hv hld hn
    have hx : (0 ≤ (⟨a, t⟩ : LoadR).at_ ∧ (⟨a, t⟩ : LoadR).at_ ≤ span) ∧ 1 ≤ (⟨a, t⟩ : LoadR).wt ∧ (⟨a, t⟩ : LoadR).wt ≤ 200000 := ⟨⟨a0, a1⟩, t0, by show t ≤ 200000; omega⟩
    exact ⟨hv2, addR_4 hv hld (by omega), _, _, _, hm _ x hv2 x0 x1, by unfold stressR; rw [if_pos hv2], by unfold bendR; rw [if_pos hv2], Pl.nr_mono (by omega) ((gm_ins hg hx).1 x x0 x1), stress_ins hg hx, bend_ins hg hx⟩
theorem txBeam_len {nm : ByteArray} {span wd dp wood : Int} {ls : List LoadR} (h : vBeam nm span wd dp wood ls = true) : (txBeam nm span wd dp wood ls).size ≤ 1048576 := by
  have q := vBeam_vals h
  have l := bmW_len (l4 := [span, wd, dp, wood]) (ls := ls) rfl q.1 (fun x hx => by have := q.2.1 x hx; omega) q.2.2.2 ls.length (Nat.le_refl _)
  have hn := q.2.2.1
  unfold txBeam
  rw [if_pos h]
  simp only [ByteArray.size, List.size_toArray]
  omega
theorem bm_set6 {w : World} {b : Nat} {u0 u1 u2 u3 u4 u5 : Value} {T : TypeId} (v0 v1 v2 v3 v4 v5 : Value) (h : w.heap[b]? = some (.cells #[u0, u1, u2, u3, u4, u5] T (0, 0))) : ((((((w.setCell ⟨b, 0, none⟩ v0).setCell ⟨b, 1, none⟩ v1).setCell ⟨b, 2, none⟩ v2).setCell ⟨b, 3, none⟩ v3).setCell ⟨b, 4, none⟩ v4).setCell ⟨b, 5, none⟩ v5).heap[b]? = some (.cells #[v0, v1, v2, v3, v4, v5] T (0, 0)) := by
  have one : ∀ {w : World} {j : Nat} {vs : Array Value} (v : Value), w.heap[b]? = some (.cells vs T (0, 0)) → (w.setCell ⟨b, j, none⟩ v).heap[b]? = some (.cells (vs.setIfInBounds j v) T (0, 0)) := fun v h => by simp [World.setCell, Array.getElem?_modify, h]
  simpa using one v5 (one v4 (one v3 (one v2 (one v1 (one v0 h (j := 0)) (j := 1)) (j := 2)) (j := 3)) (j := 4)) (j := 5)
theorem bm_facts {w : World} {b : Nat} {u0 u1 u2 u3 u4 u5 : Value} {T : TypeId} (h : w.heap[b]? = some (.cells #[u0, u1, u2, u3, u4, u5] T (0, 0))) : (w.cell? ⟨b, 0, none⟩ = some u0 ∧ w.cell? ⟨b, 1, none⟩ = some u1 ∧ w.cell? ⟨b, 2, none⟩ = some u2 ∧ w.cell? ⟨b, 3, none⟩ = some u3 ∧ w.cell? ⟨b, 4, none⟩ = some u4 ∧ w.cell? ⟨b, 5, none⟩ = some u5) ∧ w.frozen? ⟨b, 0, none⟩ = false ∧ w.frozen? ⟨b, 1, none⟩ = false ∧ w.frozen? ⟨b, 2, none⟩ = false ∧ w.frozen? ⟨b, 3, none⟩ = false ∧ w.frozen? ⟨b, 4, none⟩ = false ∧ w.frozen? ⟨b, 5, none⟩ = false := by
  simp [World.cell?, World.frozen?, h]
theorem own_set6 {w : World} {B b : Nat} {v : Value} {ls : List LoadR} {u0 u1 u2 u3 u4 u5 : Value} {T : TypeId} (v0 v1 v2 v3 v4 v5 : Value) (h : OwnL w B v ls) (hk : w.heap[b]? = some (.cells #[u0, u1, u2, u3, u4, u5] T (0, 0))) (hT : T ≠ 31) : OwnL ((((((w.setCell ⟨b, 0, none⟩ v0).setCell ⟨b, 1, none⟩ v1).setCell ⟨b, 2, none⟩ v2).setCell ⟨b, 3, none⟩ v3).setCell ⟨b, 4, none⟩ v4).setCell ⟨b, 5, none⟩ v5) B v ls := by
  have one : ∀ {w : World} {j : Nat} {vs : Array Value} (x : Value), w.heap[b]? = some (.cells vs T (0, 0)) → (w.setCell ⟨b, j, none⟩ x).heap[b]? = some (.cells (vs.setIfInBounds j x) T (0, 0)) := fun x h => by simp [World.setCell, Array.getElem?_modify, h]
  have q0 := one v0 hk (j := 0)
  have q1 := one v1 q0 (j := 1)
  have q2 := one v2 q1 (j := 2)
  have q3 := one v3 q2 (j := 3)
  have q4 := one v4 q3 (j := 4)
  exact own_setType (own_setType (own_setType (own_setType (own_setType (own_setType h hk hT) q0 hT) q1 hT) q2 hT) q3 hT) q4 hT
theorem below_set6 {w w0 : World} {B b : Nat} (v0 v1 v2 v3 v4 v5 : Value) (h : Below B w0 w) (hb : B ≤ b) : Below B w0 ((((((w.setCell ⟨b, 0, none⟩ v0).setCell ⟨b, 1, none⟩ v1).setCell ⟨b, 2, none⟩ v2).setCell ⟨b, 3, none⟩ v3).setCell ⟨b, 4, none⟩ v4).setCell ⟨b, 5, none⟩ v5) :=
  (((((h.setCell hb _).setCell hb _).setCell hb _).setCell hb _).setCell hb _).setCell hb _
theorem r8WideK {B : Nat} {A : Option Addr} {n c : Nat} {w : World} (k m : Int) (h : ByAt w B A n) (k0 : 0 ≤ k) (hk : k ≤ 999) (hn : n ≤ 9223372036854775807) (m0 : 1 ≤ m) (m1 : m ≤ 1000000) :
    Calls Tryz.prog 7 #[.slice A n c, .int .i64 k, .int .i64 m] w fun e w' => ∃ r : Int, e = .returned (.int .i64 r) ∧ 0 ≤ r ∧ r < m ∧ w = w' := by
  obtain ⟨j, rfl⟩ := Int.eq_ofNat_of_zero_le k0
  exact lawsr8Wide B A n c j m w h (by omega) hn m0 m1
theorem AddLoad_is {nm : ByteArray} {span wd dp wood : Int} {A : Option Addr} {c : Nat} {ls ls' : List LoadR} {a t : Int} {w : World} (h : SlAt encLoad 2 w A ls) (hn : ls.length ≤ 1048576) (hs : nm.size ≤ maxLen) (hcl : CloneOK A c ls) (e : addR nm span wd dp wood ls a t = ((nm, span, wd, dp, wood), ls', 0)) :
    Calls Tryz.prog 13 #[.agg #[.string nm, .int .i64 span, .int .i64 wd, .int .i64 dp, .int .i64 wood, .slice A ls.length c], .agg #[.int .i64 a, .int .i64 t]] w fun e w' => ∃ (A' : Option Addr) (c' : Nat), e = .returned (.tuple #[.agg #[.string nm, .int .i64 span, .int .i64 wd, .int .i64 dp, .int .i64 wood, .slice A' ls'.length c'], .int .i64 0]) ∧ OwnL w' w.heap.size (.slice A' ls'.length c') ls' ∧ Below w.heap.size w w' := by
  refine (addLoadG nm span wd dp wood A c ls a t w h hcl hn hs).mono ?_
  rintro e' w' ⟨n0, v1, v2, v3, v4, A', c', xs, code, rfl, hP, _, _, hO, hb⟩
  rw [e] at hP
  simp only [Prod.mk.injEq] at hP
  obtain ⟨⟨rfl, rfl, rfl, rfl, rfl⟩, rfl, rfl⟩ := hP
  exact ⟨A', c', rfl, hO, hb⟩
set_option maxRecDepth 100000 in
set_option maxHeartbeats 4000000 in
theorem lawFnFrames (A A' : Option Addr) (n c n' c' : Nat) (w : World) (hE : Env w) (h : ByAt w w.heap.size A n) (h' : ByAt w w.heap.size A' n') (hn : n ≤ 9223372036854775807) (hn' : n' ≤ 9223372036854775807) :
    Calls Tryz.prog 3 #[.slice A n c, .slice A' n' c'] w fun e w' => e = .returned (.bool true) ∧ Below w.heap.size w w' := by
  have HX := hide h
  have HY := hide h'
  have HE := hide hE
  clear h h' hE
  go_enter Tryz.func3, Tryz.ntmps3
  go_wp2_with fail
  refine (lawsr8Long A A' n c n' c' w).mono ?_
  rintro e w0 ⟨rfl, rfl⟩
  cases hq : (decide ((1048576 : Int) < n) || decide ((1048576 : Int) < n'))
  · clear hq
    go_wp2_with fail
    refine (specR8Beam A n c w HX.out hn).mono ?_
    rintro e w1 ⟨nm, span, wd, dp, wood, A1, c1, ls, rfl, hv, hs, -, -, hA, ⟨hl3, hki⟩, hb⟩
    have hz1 := hb.size
    have HV := hide hv
    have hls : ls.length ≤ 1048576 := by omega
    have hlt8 : ls.length < 8 := by omega
    have HG := hide (good_of hv)
    have s1 := HG.out.s1
    have s2 := HG.out.s2
    have HCL := hide (show CloneOK A1 c1 ls from by
      rcases hki with ⟨rfl, rfl⟩ | ⟨g, rfl⟩
      · exact clone_none c1
      · exact clone_some g 0 c1 ls (by omega))
    obtain ⟨lL, lR, r1, r2, r3, r4, r5⟩ := react_vals hv
    have HR := hide r1
    have HRS := hide r2
    clear r1 r2
    have X2 := hide (hA.below (w' := w1.alloc (.cells #[.string nm, .int .i64 span, .int .i64 wd, .int .i64 dp, .int .i64 wood, .slice A1 ls.length c1] 26)) (by repeat (first | with_reducible exact Below.refl _ _ | with_reducible assumption | (with_reducible refine Below.drew ?_) | (with_reducible refine below_drewN ?_ _) | ((with_reducible refine Below.alloc ?_ ?_ _); rotate_left; (focus (first | omega | (simp; omega) | simp))) | ((with_reducible refine Below.setCell ?_ ?_ _); rotate_left; (focus (first | omega | (simp; omega) | simp))) | (refine Below.trans ?_ (Below.mono (by assumption) (by first | omega | (simp; omega) | simp))))))
    have B2 := hide (hb.alloc hz1 (.cells #[.string nm, .int .i64 span, .int .i64 wd, .int .i64 dp, .int .i64 wood, .slice A1 ls.length c1] 26))
    have K2 := hide (heap_alloc_new w1 (.cells #[.string nm, .int .i64 span, .int .i64 wd, .int .i64 dp, .int .i64 wood, .slice A1 ls.length c1] 26))
    clear hki hv hA hb
    go_wp2_with fail
    generalize w1.alloc (.cells #[.string nm, .int .i64 span, .int .i64 wd, .int .i64 dp, .int .i64 wood, .slice A1 ls.length c1] 26) = w2 at X2 B2 K2 ⊢
    generalize w1.heap.size = k at *
    have z2 := B2.out.size
    refine (ReactionsOf_is (hs := hs)  X2.out hls HR.out).mono ?_
    rintro e w3 ⟨rfl, hb⟩
    have X3 := hide (X2.out.below hb)
    have K3 := hide ((hb.block _ (heap_lt K2.out)).trans K2.out)
    have B3 := hide (B2.out.trans (hb.mono z2))
    have z3 := B3.out.size
    clear hb B2 X2 K2
    have qp := K3.out
    have p0 : w3.cell? ⟨k, 0, none⟩ = some (.string nm) := by simp [World.cell?, qp]
    have p1 : w3.cell? ⟨k, 1, none⟩ = some (.int .i64 span) := by simp [World.cell?, qp]
    have p2 : w3.cell? ⟨k, 2, none⟩ = some (.int .i64 wd) := by simp [World.cell?, qp]
    have p3 : w3.cell? ⟨k, 3, none⟩ = some (.int .i64 dp) := by simp [World.cell?, qp]
    have p4 : w3.cell? ⟨k, 4, none⟩ = some (.int .i64 wood) := by simp [World.cell?, qp]
    have p5 : w3.cell? ⟨k, 5, none⟩ = some (.slice A1 ls.length c1) := by simp [World.cell?, qp]
    have pz : k < w3.heap.size := heap_lt qp
    clear qp
    go_wp2_with fail
    go_loopw [9, 10] (fun v u wr => ∃ (j : Nat) (s : Int), v = .int .i64 s ∧ u = .int .i64 j ∧ j ≤ ls.length ∧ Hid (s = sumB (·.wt) (ls.take j)) ∧ Hid (Below w3.heap.size w3 wr)) (fun _ u _ => ls.length - (intOf u).toNat)
    case atStart => exact ⟨0, 0, rfl, rfl, by omega, by simp [Hid, sumB], hide (Below.refl _ _)⟩
    case round =>
      obtain ⟨j, s, rfl, rfl, hj, HS, HBr⟩ := hrel
      have Kr := hide ((HBr.out.block _ (heap_lt K3.out)).trans K3.out)
      clear pz p0 p1 p2 p3 p4 p5
      have qp := Kr.out
      have p0 : wr.cell? ⟨k, 0, none⟩ = some (.string nm) := by simp [World.cell?, qp]
      have p1 : wr.cell? ⟨k, 1, none⟩ = some (.int .i64 span) := by simp [World.cell?, qp]
      have p2 : wr.cell? ⟨k, 2, none⟩ = some (.int .i64 wd) := by simp [World.cell?, qp]
      have p3 : wr.cell? ⟨k, 3, none⟩ = some (.int .i64 dp) := by simp [World.cell?, qp]
      have p4 : wr.cell? ⟨k, 4, none⟩ = some (.int .i64 wood) := by simp [World.cell?, qp]
      have p5 : wr.cell? ⟨k, 5, none⟩ = some (.slice A1 ls.length c1) := by simp [World.cell?, qp]
      have pz : k < wr.heap.size := heap_lt qp
      clear qp
      have bs := sumB_take_bd (f := (·.wt)) (M := 200000) j (fun l hl => by have := HG.out.l l hl; omega) (by omega) HG.out.n
      rw [← HS.out] at bs
      by_cases hlt : j < ls.length
      · obtain ⟨g, off, rfl, hgl, hc⟩ := (X3.out.below HBr.out) j hlt
        have hc1 := hc 1 _ rfl
        clear hc
        have hst := hide (sumB_take (f := (·.wt)) hlt)
        have hwt := (HG.out.l ls[j] (List.getElem_mem hlt)).2
        have HS2 := hide (show s + ls[j].wt = sumB (·.wt) (ls.take (j + 1)) from by rw [hst.out, HS.out])
        have hlj : (j : Int) < (ls.length : Int) := by omega
        clear hst HS
        generalize ls[j].wt = y at *
        go_wp2_with fail
        go_roundw
        case rel => exact ⟨j + 1, s + y, by go_num, by go_num, by omega, HS2, by first | exact HBr | exact hide (HBr.out.trans (by repeat (first | with_reducible exact Below.refl _ _ | with_reducible assumption | (with_reducible refine Below.drew ?_) | (with_reducible refine below_drewN ?_ _) | ((with_reducible refine Below.alloc ?_ ?_ _); rotate_left; (focus (first | omega | (simp; omega) | simp))) | ((with_reducible refine Below.setCell ?_ ?_ _); rotate_left; (focus (first | omega | (simp; omega) | simp))) | (refine Below.trans ?_ (Below.mono (by assumption) (by first | omega | (simp; omega) | simp))))))⟩
        case measure => simp [intOf]; omega
      · obtain rfl : j = ls.length := by omega
        have hsum : s = sumB (·.wt) ls := by rw [HS.out, List.take_length]
        have X4 := hide (X3.out.below HBr.out)
        have K4 := Kr
        have B4 := hide (B3.out.trans (HBr.out.mono z3))
        have z4 := B4.out.size
        have Y4 := hide ((HY.out.below B4.out))
        have hLR : lL + lR = s := by rw [hsum]; exact HRS.out
        clear HS HBr X3 K3 B3 Kr hsum HRS bs
        go_wp2_with fail
        refine (lawsr8Wide w.heap.size A' n' c' 0 (span + 1) _ Y4.out (by omega) hn' (by omega) (by omega)).mono ?_
        rintro e w5 ⟨x, rfl, x0, x1, rfl⟩
        obtain ⟨m, at_, most, st, be, hm, hz, he, hgr, hst, hbe, m0, mm, a0, a1, hins⟩ := frames_say HV.out hlt8 (x := x) x0 (by omega)
        have HM := hide hm
        have HZ := hide hz
        have HN := hide he
        have HGR := hide hgr
        have HST := hide hst
        have HBE := hide hbe
        have HIN := hide hins
        clear hm hz he hgr hst hbe hins
        go_wp2_with fail
        have Y := Y4
        refine (MomentAt_is (hs := hs) X4.out hls HM.out).mono ?_
        rintro e w5 ⟨rfl, hb⟩
        have X5 := hide (X4.out.below hb)
        have K5 := hide ((hb.block _ (heap_lt K4.out)).trans K4.out)
        have B5 := hide (B4.out.trans (hb.mono z4))
        have z5 := B5.out.size
        clear hb B4 X4 K4
        clear pz p0 p1 p2 p3 p4 p5
        have qp := K5.out
        have p0 : w5.cell? ⟨k, 0, none⟩ = some (.string nm) := by simp [World.cell?, qp]
        have p1 : w5.cell? ⟨k, 1, none⟩ = some (.int .i64 span) := by simp [World.cell?, qp]
        have p2 : w5.cell? ⟨k, 2, none⟩ = some (.int .i64 wd) := by simp [World.cell?, qp]
        have p3 : w5.cell? ⟨k, 3, none⟩ = some (.int .i64 dp) := by simp [World.cell?, qp]
        have p4 : w5.cell? ⟨k, 4, none⟩ = some (.int .i64 wood) := by simp [World.cell?, qp]
        have p5 : w5.cell? ⟨k, 5, none⟩ = some (.slice A1 ls.length c1) := by simp [World.cell?, qp]
        have pz : k < w5.heap.size := heap_lt qp
        clear qp
        go_wp2_with fail
        refine (MomentAt_is (hs := hs) X5.out hls HZ.out).mono ?_
        rintro e w6 ⟨rfl, hb⟩
        have X6 := hide (X5.out.below hb)
        have K6 := hide ((hb.block _ (heap_lt K5.out)).trans K5.out)
        have B6 := hide (B5.out.trans (hb.mono z5))
        have z6 := B6.out.size
        clear hb B5 X5 K5
        clear pz p0 p1 p2 p3 p4 p5
        have qp := K6.out
        have p0 : w6.cell? ⟨k, 0, none⟩ = some (.string nm) := by simp [World.cell?, qp]
        have p1 : w6.cell? ⟨k, 1, none⟩ = some (.int .i64 span) := by simp [World.cell?, qp]
        have p2 : w6.cell? ⟨k, 2, none⟩ = some (.int .i64 wd) := by simp [World.cell?, qp]
        have p3 : w6.cell? ⟨k, 3, none⟩ = some (.int .i64 dp) := by simp [World.cell?, qp]
        have p4 : w6.cell? ⟨k, 4, none⟩ = some (.int .i64 wood) := by simp [World.cell?, qp]
        have p5 : w6.cell? ⟨k, 5, none⟩ = some (.slice A1 ls.length c1) := by simp [World.cell?, qp]
        have pz : k < w6.heap.size := heap_lt qp
        clear qp
        go_wp2_with fail
        refine (MomentAt_is (hs := hs) X6.out hls HN.out).mono ?_
        rintro e w7 ⟨rfl, hb⟩
        have X7 := hide (X6.out.below hb)
        have K7 := hide ((hb.block _ (heap_lt K6.out)).trans K6.out)
        have B7 := hide (B6.out.trans (hb.mono z6))
        have z7 := B7.out.size
        clear hb B6 X6 K6
        clear pz p0 p1 p2 p3 p4 p5
        have qp := K7.out
        have p0 : w7.cell? ⟨k, 0, none⟩ = some (.string nm) := by simp [World.cell?, qp]
        have p1 : w7.cell? ⟨k, 1, none⟩ = some (.int .i64 span) := by simp [World.cell?, qp]
        have p2 : w7.cell? ⟨k, 2, none⟩ = some (.int .i64 wd) := by simp [World.cell?, qp]
        have p3 : w7.cell? ⟨k, 3, none⟩ = some (.int .i64 dp) := by simp [World.cell?, qp]
        have p4 : w7.cell? ⟨k, 4, none⟩ = some (.int .i64 wood) := by simp [World.cell?, qp]
        have p5 : w7.cell? ⟨k, 5, none⟩ = some (.slice A1 ls.length c1) := by simp [World.cell?, qp]
        have pz : k < w7.heap.size := heap_lt qp
        clear qp
        go_wp2_with fail
        refine (GreatestMoment_is (hs := hs) X7.out hls HGR.out).mono ?_
        rintro e w8 ⟨rfl, hb⟩
        have X8 := hide (X7.out.below hb)
        have K8 := hide ((hb.block _ (heap_lt K7.out)).trans K7.out)
        have B8 := hide (B7.out.trans (hb.mono z7))
        have z8 := B8.out.size
        clear hb B7 X7 K7
        clear pz p0 p1 p2 p3 p4 p5
        have qp := K8.out
        have p0 : w8.cell? ⟨k, 0, none⟩ = some (.string nm) := by simp [World.cell?, qp]
        have p1 : w8.cell? ⟨k, 1, none⟩ = some (.int .i64 span) := by simp [World.cell?, qp]
        have p2 : w8.cell? ⟨k, 2, none⟩ = some (.int .i64 wd) := by simp [World.cell?, qp]
        have p3 : w8.cell? ⟨k, 3, none⟩ = some (.int .i64 dp) := by simp [World.cell?, qp]
        have p4 : w8.cell? ⟨k, 4, none⟩ = some (.int .i64 wood) := by simp [World.cell?, qp]
        have p5 : w8.cell? ⟨k, 5, none⟩ = some (.slice A1 ls.length c1) := by simp [World.cell?, qp]
        have pz : k < w8.heap.size := heap_lt qp
        clear qp
        go_wp2_with fail
        refine (implBeamText nm span wd dp wood A1 c1 ls _ X8.out (HE.out.below B8.out).t hls hs).mono ?_
        rintro e w9 ⟨rfl, hb⟩
        have X9 := hide (X8.out.below hb)
        have K9 := hide ((hb.block _ (heap_lt K8.out)).trans K8.out)
        have B9 := hide (B8.out.trans (hb.mono z8))
        have z9 := B9.out.size
        clear hb B8 X8 K8
        clear pz p0 p1 p2 p3 p4 p5
        go_wp2_with fail
        refine (implReadBeam (txBeam nm span wd dp wood ls) _ (HE.out.below B9.out) (txBeam_len HV.out)).mono ?_
        rintro e w10 ⟨A2, c2, he, hO2, hb⟩
        obtain ⟨e1, e2⟩ := bm_some (readB_back HV.out)
        rw [e1.out, e2.out] at he
        rw [e1.out] at hO2
        simp only at he hO2
        subst he
        clear e1 e2
        have K10 := hide ((hb.block _ (heap_lt K9.out)).trans K9.out)
        have X10 := hide (X9.out.below hb)
        have B10 := hide (B9.out.trans (hb.mono z9))
        have z10 := B10.out.size
        have T10 := hide (Own.at_ (enc := encLoad) (sz := 2) (fun _ => rfl) hO2)
        clear hb hO2 B9 X9 K9
        have zk := heap_lt K10.out
        have X11 := hide (X10.out.below (w' := w10.alloc (.cells #[.string nm, .int .i64 span, .int .i64 wd, .int .i64 dp, .int .i64 wood, .slice A2 ls.length c2] 26)) (by repeat (first | with_reducible exact Below.refl _ _ | with_reducible assumption | (with_reducible refine Below.drew ?_) | (with_reducible refine below_drewN ?_ _) | ((with_reducible refine Below.alloc ?_ ?_ _); rotate_left; (focus (first | omega | (simp; omega) | simp))) | ((with_reducible refine Below.setCell ?_ ?_ _); rotate_left; (focus (first | omega | (simp; omega) | simp))) | (refine Below.trans ?_ (Below.mono (by assumption) (by first | omega | (simp; omega) | simp))))))
        have T11 := hide (T10.out.below (w' := w10.alloc (.cells #[.string nm, .int .i64 span, .int .i64 wd, .int .i64 dp, .int .i64 wood, .slice A2 ls.length c2] 26)) (by repeat (first | with_reducible exact Below.refl _ _ | with_reducible assumption | (with_reducible refine Below.drew ?_) | (with_reducible refine below_drewN ?_ _) | ((with_reducible refine Below.alloc ?_ ?_ _); rotate_left; (focus (first | omega | (simp; omega) | simp))) | ((with_reducible refine Below.setCell ?_ ?_ _); rotate_left; (focus (first | omega | (simp; omega) | simp))) | (refine Below.trans ?_ (Below.mono (by assumption) (by first | omega | (simp; omega) | simp))))))
        have B11 := hide (B10.out.alloc z10 (.cells #[.string nm, .int .i64 span, .int .i64 wd, .int .i64 dp, .int .i64 wood, .slice A2 ls.length c2] 26))
        have K11 := hide ((heap_alloc_old w10 (.cells #[.string nm, .int .i64 span, .int .i64 wd, .int .i64 dp, .int .i64 wood, .slice A2 ls.length c2] 26) zk).trans K10.out)
        have KR11 := hide (heap_alloc_new w10 (.cells #[.string nm, .int .i64 span, .int .i64 wd, .int .i64 dp, .int .i64 wood, .slice A2 ls.length c2] 26))
        have d1 : decide (lL < 0) = false := by simp; omega
        have d2 : decide (lR < 0) = false := by simp; omega
        have d3 : decide (m < 0) = false := by simp; omega
        have d4 : decide (most < m) = false := by simp; omega
        have d5 : decide (at_ < 0) = false := by simp; omega
        have d6 : decide (span < at_) = false := by simp; omega
        have qp := K10.out
        have p0 : w10.cell? ⟨k, 0, none⟩ = some (.string nm) := by simp [World.cell?, qp]
        have p1 : w10.cell? ⟨k, 1, none⟩ = some (.int .i64 span) := by simp [World.cell?, qp]
        have p2 : w10.cell? ⟨k, 2, none⟩ = some (.int .i64 wd) := by simp [World.cell?, qp]
        have p3 : w10.cell? ⟨k, 3, none⟩ = some (.int .i64 dp) := by simp [World.cell?, qp]
        have p4 : w10.cell? ⟨k, 4, none⟩ = some (.int .i64 wood) := by simp [World.cell?, qp]
        have p5 : w10.cell? ⟨k, 5, none⟩ = some (.slice A1 ls.length c1) := by simp [World.cell?, qp]
        have pz : k < w10.heap.size := heap_lt qp
        clear qp
        clear X10 T10 B10 K10
        go_wp2_with fail
        refine (SameBeam_same nm span wd dp wood A2 A1 c2 c1 ls _ (T11.out.below (by repeat (first | with_reducible exact Below.refl _ _ | with_reducible assumption | (with_reducible refine Below.drew ?_) | (with_reducible refine below_drewN ?_ _) | ((with_reducible refine Below.alloc ?_ ?_ _); rotate_left; (focus (first | omega | (simp; omega) | simp))) | ((with_reducible refine Below.setCell ?_ ?_ _); rotate_left; (focus (first | omega | (simp; omega) | simp))) | (refine Below.trans ?_ (Below.mono (by assumption) (by first | omega | (simp; omega) | simp)))))) (X11.out.below (by repeat (first | with_reducible exact Below.refl _ _ | with_reducible assumption | (with_reducible refine Below.drew ?_) | (with_reducible refine below_drewN ?_ _) | ((with_reducible refine Below.alloc ?_ ?_ _); rotate_left; (focus (first | omega | (simp; omega) | simp))) | ((with_reducible refine Below.setCell ?_ ?_ _); rotate_left; (focus (first | omega | (simp; omega) | simp))) | (refine Below.trans ?_ (Below.mono (by assumption) (by first | omega | (simp; omega) | simp)))))) hls).mono ?_
        rintro e w12 ⟨rfl, hb⟩
        have z11 := B11.out.size
        have K12 := hide ((hb.block _ (by first | exact heap_lt K11.out | (have := heap_lt K11.out; simp at this ⊢; omega))).trans K11.out)
        have X12 := hide (X11.out.below hb)
        have B12 := hide (B11.out.trans (hb.mono z11))
        have z12 := B12.out.size
        clear hb X11 T11 B11 K11 KR11 d1 d2 d3 d4 d5 d6
        clear pz p0 p1 p2 p3 p4 p5
        have Y12 := hide (HY.out.below B12.out)
        go_upto_region 18 with fail
        go_cut [23, 24] (fun v u wx => ∃ (r ya yb : Int) (q : Nat) (A6 : Option Addr) (c6 : Nat), r = 0 ∧ v = .pointer (some ⟨q, 0, none⟩) ∧ u = .int .i64 r ∧ 0 ≤ ya ∧ ya ≤ span ∧ 1 ≤ yb ∧ yb ≤ 9000 ∧ w12.heap.size ≤ q ∧ Hid (wx.heap[q]? = some (.cells #[.string nm, .int .i64 span, .int .i64 wd, .int .i64 dp, .int .i64 wood, .slice A6 (insL ls (posL ls ya) ⟨ya, yb⟩).length c6] 26 (0, 0))) ∧ Hid (SlAt encLoad 2 wx A6 (insL ls (posL ls ya) ⟨ya, yb⟩)) ∧ Hid (Below w12.heap.size w12 wx))
        case first =>
          have qp := K12.out
          have p0 : w12.cell? ⟨k, 0, none⟩ = some (.string nm) := by simp [World.cell?, qp]
          have p1 : w12.cell? ⟨k, 1, none⟩ = some (.int .i64 span) := by simp [World.cell?, qp]
          have p2 : w12.cell? ⟨k, 2, none⟩ = some (.int .i64 wd) := by simp [World.cell?, qp]
          have p3 : w12.cell? ⟨k, 3, none⟩ = some (.int .i64 dp) := by simp [World.cell?, qp]
          have p4 : w12.cell? ⟨k, 4, none⟩ = some (.int .i64 wood) := by simp [World.cell?, qp]
          have p5 : w12.cell? ⟨k, 5, none⟩ = some (.slice A1 ls.length c1) := by simp [World.cell?, qp]
          have pz : k < w12.heap.size := heap_lt qp
          clear qp
          have HKP := hide (fun (W' : World) (h : Below w12.heap.size w12 W') => (show W'.cell? ⟨k, 0, none⟩ = some (.string nm) ∧ W'.cell? ⟨k, 1, none⟩ = some (.int .i64 span) ∧ W'.cell? ⟨k, 2, none⟩ = some (.int .i64 wd) ∧ W'.cell? ⟨k, 3, none⟩ = some (.int .i64 dp) ∧ W'.cell? ⟨k, 4, none⟩ = some (.int .i64 wood) ∧ W'.cell? ⟨k, 5, none⟩ = some (.slice A1 ls.length c1) ∧ Below w12.heap.size w12 W' from by
            have hX := (h.block _ (heap_lt K12.out)).trans K12.out
            exact ⟨by simp [World.cell?, hX], by simp [World.cell?, hX], by simp [World.cell?, hX], by simp [World.cell?, hX], by simp [World.cell?, hX], by simp [World.cell?, hX], h⟩))
          have kw : IntKind.i64.wrap (span + 1) = span + 1 := IntWalk.i64_in _ (by omega)
          go_region_held3 (fun W' => W'.cell? ⟨k, 0, none⟩ = some (.string nm) ∧ W'.cell? ⟨k, 1, none⟩ = some (.int .i64 span) ∧ W'.cell? ⟨k, 2, none⟩ = some (.int .i64 wd) ∧ W'.cell? ⟨k, 3, none⟩ = some (.int .i64 dp) ∧ W'.cell? ⟨k, 4, none⟩ = some (.int .i64 wood) ∧ W'.cell? ⟨k, 5, none⟩ = some (.slice A1 ls.length c1) ∧ Below w12.heap.size w12 W')
            (exact HKP.out _ (by repeat (first | with_reducible exact Below.refl _ _ | with_reducible assumption | (with_reducible refine Below.drew ?_) | (with_reducible refine below_drewN ?_ _) | ((with_reducible refine Below.alloc ?_ ?_ _); rotate_left; (focus (first | omega | (simp; omega) | simp))) | ((with_reducible refine Below.setCell ?_ ?_ _); rotate_left; (focus (first | omega | (simp; omega) | simp))) | (refine Below.trans ?_ (Below.mono (by assumption) (by first | omega | (simp; omega) | simp))))))
            (first | (go_at_call 7; (try simp only [kw]); with_reducible refine (r8WideK 2 (span + 1) (Y12.out.below (by repeat (first | with_reducible exact Below.refl _ _ | with_reducible assumption | (with_reducible refine Below.drew ?_) | (with_reducible refine below_drewN ?_ _) | ((with_reducible refine Below.alloc ?_ ?_ _); rotate_left; (focus (first | omega | (simp; omega) | simp))) | ((with_reducible refine Below.setCell ?_ ?_ _); rotate_left; (focus (first | omega | (simp; omega) | simp))) | (refine Below.trans ?_ (Below.mono (by assumption) (by first | omega | (simp; omega) | simp)))))) (by omega) (by omega) hn' (by omega) (by omega)).mono ?_; rintro e w5 ⟨ya, rfl, ya0, ya1, rfl⟩) | (go_at_call 7; (try simp only [kw]); with_reducible refine (r8WideK 4 (9000) (Y12.out.below (by repeat (first | with_reducible exact Below.refl _ _ | with_reducible assumption | (with_reducible refine Below.drew ?_) | (with_reducible refine below_drewN ?_ _) | ((with_reducible refine Below.alloc ?_ ?_ _); rotate_left; (focus (first | omega | (simp; omega) | simp))) | ((with_reducible refine Below.setCell ?_ ?_ _); rotate_left; (focus (first | omega | (simp; omega) | simp))) | (refine Below.trans ?_ (Below.mono (by assumption) (by first | omega | (simp; omega) | simp)))))) (by omega) (by omega) hn' (by omega) (by omega)).mono ?_; rintro e w5 ⟨yb, rfl, yb0, yb1, rfl⟩; have kb : IntKind.i64.wrap (1 + yb) = 1 + yb := IntWalk.i64_in _ (by omega)) | (go_at_call 13; (try simp only [kb]); refine (AddLoad_is (t := 1 + yb) (X12.out.below (by repeat (first | with_reducible exact Below.refl _ _ | with_reducible assumption | (with_reducible refine Below.drew ?_) | (with_reducible refine below_drewN ?_ _) | ((with_reducible refine Below.alloc ?_ ?_ _); rotate_left; (focus (first | omega | (simp; omega) | simp))) | ((with_reducible refine Below.setCell ?_ ?_ _); rotate_left; (focus (first | omega | (simp; omega) | simp))) | (refine Below.trans ?_ (Below.mono (by assumption) (by first | omega | (simp; omega) | simp)))))) hls hs HCL.out ((HIN.out ya (1 + yb) ya0 (by omega) (by omega) (by omega)).2.1)).mono ?_; rintro e wF ⟨A6, c6, rfl, hO, hbF⟩; have hbU : Below w12.heap.size w12 wF := Below.trans (show Below w12.heap.size w12 _ from (by repeat (first | with_reducible exact Below.refl _ _ | with_reducible assumption | (with_reducible refine Below.drew ?_) | (with_reducible refine below_drewN ?_ _) | ((with_reducible refine Below.alloc ?_ ?_ _); rotate_left; (focus (first | omega | (simp; omega) | simp))) | ((with_reducible refine Below.setCell ?_ ?_ _); rotate_left; (focus (first | omega | (simp; omega) | simp))) | (refine Below.trans ?_ (Below.mono (by assumption) (by first | omega | (simp; omega) | simp)))))) (hbF.mono (by first | exact Nat.le_refl _ | (simp; done) | omega | (simp; omega))); have hzU := hbU.size; have hO2 : OwnL wF w12.heap.size _ _ := hO.mono (by first | exact Nat.le_refl _ | (simp; done) | omega | (simp; omega)); have fzF := hbF.size; (try simp at fzF); (first | (have QF := (hbF.block w12.heap.size (by first | (simp; done) | (simp; omega))).trans (heap_alloc_new w12.drew (.cells #[.string ⟨#[]⟩, .int .i64 0, .int .i64 0, .int .i64 0, .int .i64 0, .slice none 0 0] 26)); have QZ := bm_facts QF; obtain ⟨⟨y0, y1, y2, y3, y4, y5⟩, v0, v1, v2, v3, v4, v5⟩ := QZ) | skip); obtain ⟨fcbF, ffbF, fzbF⟩ := bfacts hbF (by first | exact Nat.le_refl _ | omega | (simp; omega) | simp); have fsbF := hbF.size; try simp at fcbF ffbF fzbF fsbF hbF))
          all_goals
            go_wp2_with fail
            go_meet
            (first | (with_reducible refine ⟨0, ya, 1 + yb, wF.heap.size, A6, c6, rfl, rfl, rfl, ya0, by omega, by omega, by omega, hzU, ?_⟩; exact ⟨hide (heap_alloc_new _ _), hide ((hO2.below (by repeat (first | with_reducible exact Below.refl _ _ | with_reducible assumption | (with_reducible refine Below.drew ?_) | (with_reducible refine below_drewN ?_ _) | ((with_reducible refine Below.alloc ?_ ?_ _); rotate_left; (focus (first | omega | (simp; omega) | simp))) | ((with_reducible refine Below.setCell ?_ ?_ _); rotate_left; (focus (first | omega | (simp; omega) | simp))) | (refine Below.trans ?_ (Below.mono (by assumption) (by first | omega | (simp; omega) | simp)))))).at_ (fun _ => rfl)), hide (by repeat (first | with_reducible exact Below.refl _ _ | with_reducible assumption | (with_reducible refine Below.drew ?_) | (with_reducible refine below_drewN ?_ _) | ((with_reducible refine Below.alloc ?_ ?_ _); rotate_left; (focus (first | omega | (simp; omega) | simp))) | ((with_reducible refine Below.setCell ?_ ?_ _); rotate_left; (focus (first | omega | (simp; omega) | simp))) | (refine Below.trans ?_ (Below.mono (by assumption) (by first | omega | (simp; omega) | simp)))))⟩) | (with_reducible refine ⟨0, ya, 1 + yb, w12.heap.size, A6, c6, rfl, rfl, rfl, ya0, by omega, by omega, by omega, Nat.le_refl _, ?_⟩; exact ⟨hide (bm_set6 _ _ _ _ _ _ QF), hide ((own_set6 _ _ _ _ _ _ hO2 QF (by decide)).at_ (fun _ => rfl)), hide (below_set6 _ _ _ _ _ _ hbU (Nat.le_refl _))⟩))
        case rest =>
          obtain ⟨r, ya, yb, q, A6, c6, rfl, rfl, rfl, ya0, ya1, yb0, yb1, hq, HQ, HA6, HB⟩ := hcut
          obtain ⟨w13, rfl⟩ : ∃ w13, w13 = wc := ⟨_, rfl⟩
          obtain ⟨hv2, -, m', st', be', hm', hst', hbe', mm', ss', bb'⟩ := HIN.out ya yb ya0 ya1 yb0 yb1
          have hl2 : (insL ls (posL ls ya) ⟨ya, yb⟩).length ≤ 1048576 := by rw [insL_len (posL_le _ _)]; omega
          generalize insL ls (posL ls ya) ⟨ya, yb⟩ = ls2 at *
          have HM2 := hide hm'
          have HST2 := hide hst'
          have HBE2 := hide hbe'
          have HV2 := hide hv2
          have g1 : decide (m ≤ m') = true := by simp; omega
          have g2 : decide (st ≤ st') = true := by simp; omega
          have g3 : decide (be ≤ be') = true := by simp; omega
          have K13 := hide ((HB.out.block _ (heap_lt K12.out)).trans K12.out)
          have X13 := hide (X12.out.below HB.out)
          have B13 := hide (B12.out.trans (HB.out.mono z12))
          have z13 := B13.out.size
          have KQ13 := HQ
          have N13 := HA6
          clear HIN hv2 hm' hst' hbe' HQ HA6 HB K12 X12 B12 mm' ss' bb'
          have qt := KQ13.out
          have t0 : w13.cell? ⟨q, 0, none⟩ = some (.string nm) := by simp [World.cell?, qt]
          have t1 : w13.cell? ⟨q, 1, none⟩ = some (.int .i64 span) := by simp [World.cell?, qt]
          have t2 : w13.cell? ⟨q, 2, none⟩ = some (.int .i64 wd) := by simp [World.cell?, qt]
          have t3 : w13.cell? ⟨q, 3, none⟩ = some (.int .i64 dp) := by simp [World.cell?, qt]
          have t4 : w13.cell? ⟨q, 4, none⟩ = some (.int .i64 wood) := by simp [World.cell?, qt]
          have t5 : w13.cell? ⟨q, 5, none⟩ = some (.slice A6 ls2.length c6) := by simp [World.cell?, qt]
          have tz : q < w13.heap.size := heap_lt qt
          clear qt
          go_wp2_with fail
          refine (MomentAt_is (hs := hs) N13.out hl2 HM2.out).mono ?_
          rintro e w14 ⟨rfl, hb⟩
          have X14 := hide (X13.out.below hb)
          have K14 := hide ((hb.block _ (heap_lt K13.out)).trans K13.out)
          have N14 := hide (N13.out.below hb)
          have KQ14 := hide ((hb.block _ (heap_lt KQ13.out)).trans KQ13.out)
          have B14 := hide (B13.out.trans (hb.mono z13))
          have z14 := B14.out.size
          clear hb B13 X13 K13 N13 KQ13
          clear tz t0 t1 t2 t3 t4 t5
          have qp := K14.out
          have p0 : w14.cell? ⟨k, 0, none⟩ = some (.string nm) := by simp [World.cell?, qp]
          have p1 : w14.cell? ⟨k, 1, none⟩ = some (.int .i64 span) := by simp [World.cell?, qp]
          have p2 : w14.cell? ⟨k, 2, none⟩ = some (.int .i64 wd) := by simp [World.cell?, qp]
          have p3 : w14.cell? ⟨k, 3, none⟩ = some (.int .i64 dp) := by simp [World.cell?, qp]
          have p4 : w14.cell? ⟨k, 4, none⟩ = some (.int .i64 wood) := by simp [World.cell?, qp]
          have p5 : w14.cell? ⟨k, 5, none⟩ = some (.slice A1 ls.length c1) := by simp [World.cell?, qp]
          have pz : k < w14.heap.size := heap_lt qp
          clear qp
          go_wp2_with fail
          refine (StressOf_is (hs := hs) X14.out hls HST.out).mono ?_
          rintro e w15 ⟨rfl, hb⟩
          have X15 := hide (X14.out.below hb)
          have K15 := hide ((hb.block _ (heap_lt K14.out)).trans K14.out)
          have N15 := hide (N14.out.below hb)
          have KQ15 := hide ((hb.block _ (heap_lt KQ14.out)).trans KQ14.out)
          have B15 := hide (B14.out.trans (hb.mono z14))
          have z15 := B15.out.size
          clear hb B14 X14 K14 N14 KQ14
          clear pz p0 p1 p2 p3 p4 p5
          have qt := KQ15.out
          have t0 : w15.cell? ⟨q, 0, none⟩ = some (.string nm) := by simp [World.cell?, qt]
          have t1 : w15.cell? ⟨q, 1, none⟩ = some (.int .i64 span) := by simp [World.cell?, qt]
          have t2 : w15.cell? ⟨q, 2, none⟩ = some (.int .i64 wd) := by simp [World.cell?, qt]
          have t3 : w15.cell? ⟨q, 3, none⟩ = some (.int .i64 dp) := by simp [World.cell?, qt]
          have t4 : w15.cell? ⟨q, 4, none⟩ = some (.int .i64 wood) := by simp [World.cell?, qt]
          have t5 : w15.cell? ⟨q, 5, none⟩ = some (.slice A6 ls2.length c6) := by simp [World.cell?, qt]
          have tz : q < w15.heap.size := heap_lt qt
          clear qt
          go_wp2_with fail
          refine (StressOf_is (hs := hs) N15.out hl2 HST2.out).mono ?_
          rintro e w16 ⟨rfl, hb⟩
          have X16 := hide (X15.out.below hb)
          have K16 := hide ((hb.block _ (heap_lt K15.out)).trans K15.out)
          have N16 := hide (N15.out.below hb)
          have KQ16 := hide ((hb.block _ (heap_lt KQ15.out)).trans KQ15.out)
          have B16 := hide (B15.out.trans (hb.mono z15))
          have z16 := B16.out.size
          clear hb B15 X15 K15 N15 KQ15
          clear tz t0 t1 t2 t3 t4 t5
          have qp := K16.out
          have p0 : w16.cell? ⟨k, 0, none⟩ = some (.string nm) := by simp [World.cell?, qp]
          have p1 : w16.cell? ⟨k, 1, none⟩ = some (.int .i64 span) := by simp [World.cell?, qp]
          have p2 : w16.cell? ⟨k, 2, none⟩ = some (.int .i64 wd) := by simp [World.cell?, qp]
          have p3 : w16.cell? ⟨k, 3, none⟩ = some (.int .i64 dp) := by simp [World.cell?, qp]
          have p4 : w16.cell? ⟨k, 4, none⟩ = some (.int .i64 wood) := by simp [World.cell?, qp]
          have p5 : w16.cell? ⟨k, 5, none⟩ = some (.slice A1 ls.length c1) := by simp [World.cell?, qp]
          have pz : k < w16.heap.size := heap_lt qp
          clear qp
          go_wp2_with fail
          refine (BendingOf_is (hs := hs) X16.out hls HBE.out).mono ?_
          rintro e w17 ⟨rfl, hb⟩
          have X17 := hide (X16.out.below hb)
          have K17 := hide ((hb.block _ (heap_lt K16.out)).trans K16.out)
          have N17 := hide (N16.out.below hb)
          have KQ17 := hide ((hb.block _ (heap_lt KQ16.out)).trans KQ16.out)
          have B17 := hide (B16.out.trans (hb.mono z16))
          have z17 := B17.out.size
          clear hb B16 X16 K16 N16 KQ16
          clear pz p0 p1 p2 p3 p4 p5
          have qt := KQ17.out
          have t0 : w17.cell? ⟨q, 0, none⟩ = some (.string nm) := by simp [World.cell?, qt]
          have t1 : w17.cell? ⟨q, 1, none⟩ = some (.int .i64 span) := by simp [World.cell?, qt]
          have t2 : w17.cell? ⟨q, 2, none⟩ = some (.int .i64 wd) := by simp [World.cell?, qt]
          have t3 : w17.cell? ⟨q, 3, none⟩ = some (.int .i64 dp) := by simp [World.cell?, qt]
          have t4 : w17.cell? ⟨q, 4, none⟩ = some (.int .i64 wood) := by simp [World.cell?, qt]
          have t5 : w17.cell? ⟨q, 5, none⟩ = some (.slice A6 ls2.length c6) := by simp [World.cell?, qt]
          have tz : q < w17.heap.size := heap_lt qt
          clear qt
          go_wp2_with fail
          refine (BendingOf_is (hs := hs) N17.out hl2 HBE2.out).mono ?_
          rintro e w18 ⟨rfl, hb⟩
          have X18 := hide (X17.out.below hb)
          have K18 := hide ((hb.block _ (heap_lt K17.out)).trans K17.out)
          have N18 := hide (N17.out.below hb)
          have KQ18 := hide ((hb.block _ (heap_lt KQ17.out)).trans KQ17.out)
          have B18 := hide (B17.out.trans (hb.mono z17))
          have z18 := B18.out.size
          clear hb B17 X17 K17 N17 KQ17
          clear tz t0 t1 t2 t3 t4 t5
          have qt := KQ18.out
          have t0 : w18.cell? ⟨q, 0, none⟩ = some (.string nm) := by simp [World.cell?, qt]
          have t1 : w18.cell? ⟨q, 1, none⟩ = some (.int .i64 span) := by simp [World.cell?, qt]
          have t2 : w18.cell? ⟨q, 2, none⟩ = some (.int .i64 wd) := by simp [World.cell?, qt]
          have t3 : w18.cell? ⟨q, 3, none⟩ = some (.int .i64 dp) := by simp [World.cell?, qt]
          have t4 : w18.cell? ⟨q, 4, none⟩ = some (.int .i64 wood) := by simp [World.cell?, qt]
          have t5 : w18.cell? ⟨q, 5, none⟩ = some (.slice A6 ls2.length c6) := by simp [World.cell?, qt]
          have tz : q < w18.heap.size := heap_lt qt
          clear qt
          go_wp2_with fail
          refine (specValidBeam nm span wd dp wood A6 c6 ls2 _ (N18.out.below (by repeat (first | with_reducible exact Below.refl _ _ | with_reducible assumption | (with_reducible refine Below.drew ?_) | (with_reducible refine below_drewN ?_ _) | ((with_reducible refine Below.alloc ?_ ?_ _); rotate_left; (focus (first | omega | (simp; omega) | simp))) | ((with_reducible refine Below.setCell ?_ ?_ _); rotate_left; (focus (first | omega | (simp; omega) | simp))) | (refine Below.trans ?_ (Below.mono (by assumption) (by first | omega | (simp; omega) | simp)))))) hl2 hs).mono ?_
          rintro e w19 ⟨rfl, hb⟩
          rw [HV2.out]
          have B19 := hide (B18.out.trans (hb.mono z18))
          go_wp2_with fail
          go_ret
          exact ⟨rfl, B19.out⟩
  · clear hq
    go_wp2_with fail
    go_ret
    exact ⟨rfl, Below.refl _ _⟩
end Go.Proofs.YtajodbhbmfjmjaaGreatDoor
