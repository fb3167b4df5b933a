/- What the law of schedules draws: valid pours, valid crucibles. -/
import Derived.Test.YtklmbgefdopifaaHtD
import Derived.Test.YtklmbgefdopifaaHtP
namespace Go.Proofs.Ytklmbgefdopifaa
open Go.RowKit

theorem infoA_Cruc : (Try.prog.info? 95).map (fun i => (i.zero, i.size, i.bytes)) = some (some (.agg #[.string ByteArray.empty, .int .i64 0, .int .i64 0, .int .i64 0]), 4, 40) := by kernel_rfl
theorem one_Cruc (x : CrucR) : ∀ u ∈ encCruc x, u.oneCell' = true := by intro u hu; simp [encCruc] at hu; rcases hu with rfl | rfl | rfl | rfl <;> rfl
set_option maxRecDepth 100000 in
theorem wpList_appCruc {w : World} {ops : Array Oper} {rest : List Oper} {o : Oper} {a : Act} {Q : Exit → Act → World → Prop} (hgd : o.guard = none) (s x : Operand) (ho : o.op = .call { callee := .builtin .append, args := #[s, x], argTypes := #[47, 47] }) (B : Nat) {v : Value} {xs : List CrucR} (hs : a.eval s = v)
    (hown : Own encCruc 4 95 w B v xs) {y0 : ByteArray} {y1 : Int} {y2 : Int} {y3 : Int} {b : Nat} (hx : a.eval x = .slice (some ⟨b, 0, none⟩) 1 1) (hn : xs.length ≤ 1048576) (hB : B ≤ w.heap.size)
    (h : ∀ (A : Option Addr) (c : Nat) (w' : World), Own encCruc 4 95 w' B (.slice A (xs.length + 1) c) (xs ++ [⟨y0, y1, y2, y3⟩]) → Below B w w' → w.grownBy w' v.ownBlock → wpList Try.prog ops Q rest (a.put o.dst (.slice A (xs.length + 1) c)) w') (hbk : b = w.heap.size := by first | rfl | simp) : wpList Try.prog ops Q (o :: rest) a (w.alloc (.cells #[.string y0, .int .i64 y1, .int .i64 y2, .int .i64 y3] 95)) := by
  subst hbk
  obtain ⟨i0, hi, hz0, hz1, hz2⟩ := info_parts infoA_Cruc
  have hb0 : Below w.heap.size w (w.alloc (.cells #[.string y0, .int .i64 y1, .int .i64 y2, .int .i64 y3] 95)) := (Below.refl _ _).alloc (Nat.le_refl _) _
  refine wpList_app Try.underlying47 hi hz0 hz1 hz2 rfl (by omega) (by omega) (fun _ => rfl) hgd s x ho B hs (hown.below hb0) ⟨y0, y1, y2, y3⟩ (one_Cruc _) hx (fun j u hj => ?_) hn (by simp; omega) fun A c w' h1 h2 h3 => h A c w' h1 ((hb0.mono hB).trans h2) (grown_trans (grown_of_below hb0 _) h3)
  match j, hj with
  | 0, hj => injection hj with hj; subst hj; simp [Addr.add]
  | 1, hj => injection hj with hj; subst hj; simp [Addr.add]
  | 2, hj => injection hj with hj; subst hj; simp [Addr.add]
  | 3, hj => injection hj with hj; subst hj; simp [Addr.add]
theorem specl00From_at (B : Nat) (A : Option Addr) (n c : Nat) (w : World) (h : ByAt w B A n) (hn : n ≤ 9223372036854775807) (hB : B ≤ w.heap.size) :
    Calls Try.prog 64 #[.slice A n c] w fun e w' => e = .returned (.pointer (some ⟨w.heap.size, 0, none⟩)) ∧ Src w' B w.heap.size 0 ∧ Below w.heap.size w w' := by
  have HX := hide h
  clear h
  go_enter Try.func64, Try.ntmps64
  go_wp2_with fail
  go_ret
  exact ⟨rfl, ⟨hB, A, n, c, 0, 0, ⟨by go_simp, by go_simp, by go_simp, by go_simp, by go_simp⟩, HX.out.below (by repeat (first | with_reducible exact Below.refl _ _ | with_reducible assumption | (with_reducible refine Below.drew ?_) | (with_reducible refine below_drewN ?_ _) | ((with_reducible refine Below.alloc ?_ ?_ _); rotate_left; (focus (first | omega | (simp; omega) | simp))) | ((with_reducible refine Below.setCell ?_ ?_ _); rotate_left; (focus (first | omega | (simp; omega) | simp))) | (refine Below.trans ?_ (Below.mono (by assumption) (by first | omega | (simp; omega) | simp))))), hn, by omega, by omega⟩, (by repeat (first | with_reducible exact Below.refl _ _ | with_reducible assumption | (with_reducible refine Below.drew ?_) | (with_reducible refine below_drewN ?_ _) | ((with_reducible refine Below.alloc ?_ ?_ _); rotate_left; (focus (first | omega | (simp; omega) | simp))) | ((with_reducible refine Below.setCell ?_ ?_ _); rotate_left; (focus (first | omega | (simp; omega) | simp))) | (refine Below.trans ?_ (Below.mono (by assumption) (by first | omega | (simp; omega) | simp)))))⟩
theorem srcOne (B b N : Nat) (n : Int) (w : World) (h : Src w B b N) (hN : N ≤ 1000000) (hn : n ≤ 1000000) :
    Calls Try.prog 67 #[.pointer (some ⟨b, 0, none⟩), .int .i64 n] w fun e w' => ∃ d : Bool, e = .returned (.bool d) ∧ Src w' B b (N + 2) ∧ Below B w w' ∧ w.grownBy w' (some b) := by
  have HS := hide h
  clear h
  go_enter Try.func67, Try.ntmps67
  go_wp2_with fail
  refine (srcPick B b N n _ HS.out hN hn).mono ?_
  rintro e w1 ⟨r, rfl, -, -, hS1, hb1, hg1⟩
  have H1 := hide (And.intro hS1 (And.intro hb1 hg1))
  clear hS1 hb1 hg1
  go_wp2_with fail
  go_ret
  exact ⟨_, rfl, H1.out.1, H1.out.2.1, H1.out.2.2⟩
/-- A row in a block of its own, whole. -/
theorem own_whole {α : Type} {enc : α → List Value} {sz : Nat} {T : TypeId} {w : World} {B g n : Nat} {xs : List α} {cur : Array Value} (hk : w.heap[g]? = some (.cells cur T (0, 0))) (hB : B ≤ g) (hc : cur.toList = xs.flatMap enc) (hn : n = xs.length) (hm : n ≤ maxLen) (hz : cur.size = n * sz) : Own enc sz T w B (.slice (some ⟨g, 0, none⟩) n n) xs := by
  subst hn
  refine ⟨by rw [← hc, Array.length_toList, hz], .inr ⟨g, _, cur, rfl, hB, hk, Nat.le_refl _, hm, hz, ?_⟩⟩
  rw [hc]
  exact List.take_of_length_le (by rw [← hc, Array.length_toList, hz]; exact Nat.le_refl _)
theorem okC_of {cs : List CrucR} (h1 : ∀ x ∈ cs, vCrucR x = true) (h2 : ∀ k (hk : k < cs.length), 0 < k → sle cs[k].nm (cs[k - 1]'(by omega)).nm = false) (hl : cs.length ≤ 4) (hp : 1 ≤ cs.length) : okC cs = true := by
  unfold okC
  rw [rowsB_fin]
  · simp; omega
  · rintro k hk ⟨_, a | ⟨h0, a⟩⟩
    · rw [h1 _ (List.getElem_mem hk)] at a; cases a
    · rw [h2 k hk h0] at a; cases a
def nmBig : ByteArray := ⟨#[98, 105, 103]⟩
def nmSmall : ByteArray := ⟨#[115, 109, 97, 108, 108]⟩
theorem nm_facts : nameB nmBig.data.toList = true ∧ nameB nmSmall.data.toList = true ∧ nmBig.size ≤ 100 ∧ nmSmall.size ≤ 100 ∧ sle nmSmall nmBig = false := by
  unfold nameB sle
  simp only [ByteArray.toList_eq]
  decide
theorem cru1 {r : Int} (h0 : 0 ≤ r) (h1 : r < 60) : okC [⟨nmBig, 10000, 60 + r, 20⟩] = true := by
  refine okC_of (fun x hx => ?_) (fun k hk h0 => ?_) (by simp) (by simp)
  · simp only [List.mem_singleton] at hx
    subst hx
    show vCruc nmBig 10000 (60 + r) 20 = true
    unfold vCruc
    rw [nm_facts.1]
    unfold inB
    simp
    omega
  · simp at hk; omega
theorem cru2 {r a f : Int} (h0 : 0 ≤ r) (h1 : r < 60) (a0 : 1 ≤ a) (a1 : a ≤ 7000) (f0 : 0 ≤ f) (f1 : f ≤ 90) : okC [⟨nmBig, 10000, 60 + r, 20⟩, ⟨nmSmall, a, 30, f⟩] = true := by
  refine okC_of (fun x hx => ?_) (fun k hk h0 => ?_) (by simp) (by simp)
  · simp only [List.mem_cons, List.not_mem_nil, or_false] at hx
    rcases hx with rfl | rfl
    · show vCruc nmBig 10000 (60 + r) 20 = true
      unfold vCruc
      rw [nm_facts.1]
      unfold inB
      simp
      omega
    · show vCruc nmSmall a 30 f = true
      unfold vCruc
      rw [nm_facts.2.1]
      unfold inB
      simp
      omega
  · obtain rfl : k = 1 := by simp at hk; omega
    exact nm_facts.2.2.2.2
theorem specR8Pours (A : Option Addr) (n c : Nat) (w : World) (h : ByAt w w.heap.size A n) (hn : n ≤ 9223372036854775807) :
    Calls Try.prog 34 #[.slice A n c] w fun e w' => ∃ (A' : Option Addr) (c' : Nat) (xs : List PourR), e = .returned (.slice A' xs.length c') ∧ xs.length ≤ 4 ∧ rowsB vPourR PourR.nm 12 xs = true ∧ (∀ x ∈ xs, x.nm.size ≤ 100) ∧ SlAt encPour 4 w' A' xs ∧ Below w.heap.size w w' := by
  have HX := hide h
  clear h
  go_enter Try.func34, Try.ntmps34
  go_wp2_with fail
  refine (specl00From_at w.heap.size A n c _ HX.out hn (Nat.le_refl _)).mono ?_
  rintro e w1 ⟨rfl, hS1, hb1⟩
  have HS1 := hide hS1
  have HB1 := hide hb1
  clear hS1 hb1
  go_wp2_with fail
  refine (specl17Draw w.heap.size w.heap.size 0 _ HS1.out (by omega)).mono ?_
  rintro e w2 ⟨A', c', xs, rfl, hl, hD, hA, hg, hS2, hb2, hg2⟩
  have HA := hide hA
  have HB2 := hide (HB1.out.trans hb2)
  have hr := hD.rows hl
  have HR := hide hr
  clear hD hA hg hS2 hb2 hg2 hr
  go_wp2_with fail
  go_ret
  exact ⟨A', c', xs, rfl, hl, HR.out.1, HR.out.2, HA.out, HB2.out⟩
set_option maxRecDepth 100000 in
set_option maxHeartbeats 2000000 in
theorem specR8Crucibles (A : Option Addr) (n c : Nat) (w : World) (h : ByAt w w.heap.size A n) (hn : n ≤ 9223372036854775807) :
    Calls Try.prog 35 #[.slice A n c] w fun e w' => ∃ (A' : Option Addr) (c' : Nat) (cs : List CrucR), e = .returned (.slice A' cs.length c') ∧ cs.length ≤ 2 ∧ okC cs = true ∧ (∀ x ∈ cs, x.nm.size ≤ 100) ∧ SlAt encCruc 4 w' A' cs ∧ Below w.heap.size w w' := by
  have HX := hide h
  clear h
  go_enter Try.func35, Try.ntmps35
  go_wp2_with fail
  refine (specl00From_at w.heap.size A n c _ HX.out hn (Nat.le_refl _)).mono ?_
  rintro e w1 ⟨rfl, hS1, hb1⟩
  have HS1 := hide hS1
  have HB1 := hide hb1
  have hz1 := hb1.size
  clear hS1 hb1 HX
  go_wp2_with fail
  refine (srcPick w.heap.size w.heap.size 0 60 _ HS1.out (by omega) (by omega)).mono ?_
  rintro e w2 ⟨r, rfl, r0, r1, hS2, hb2, hg2⟩
  have r1' := r1 (by omega)
  have k1 : IntKind.i64.wrap (60 + r) = 60 + r := IntWalk.i64_in _ (by omega)
  have HB2 := hide (HB1.out.trans hb2)
  have hz2 := HB2.out.size
  have HC := hide (show Own encCruc 4 95 (w2.alloc (.cells #[.string ⟨#[98, 105, 103]⟩, .int .i64 10000, .int .i64 (60 + r), .int .i64 20] 95)) (w.heap.size + 1) (.slice (some ⟨w2.heap.size, 0, none⟩) 1 1) [⟨nmBig, 10000, 60 + r, 20⟩] from own_whole (heap_alloc_new w2 _) (by have := hS2.lt; have := hS2.1; omega) rfl rfl (by unfold maxLen; omega) rfl)
  have HS3 := hide (hS2.below (w' := w2.alloc (.cells #[.string ⟨#[98, 105, 103]⟩, .int .i64 10000, .int .i64 (60 + r), .int .i64 20] 95)) ((Below.refl _ _).alloc (Nat.le_refl _) _))
  have HB3 := hide (HB2.out.alloc hz2 (.cells #[.string ⟨#[98, 105, 103]⟩, .int .i64 10000, .int .i64 (60 + r), .int .i64 20] 95))
  clear r1 hS2 hb2 hg2 HS1 HB1
  go_upto_region 3 with fail
  generalize (w2.alloc (.cells #[.string ⟨#[98, 105, 103]⟩, .int .i64 10000, .int .i64 (60 + r), .int .i64 20] 95)) = w3 at *
  generalize w2.heap.size = g at *
  go_wp2_with fail
  refine (srcOne w.heap.size w.heap.size _ 2 _ HS3.out (by omega) (by omega)).mono ?_
  rintro e w4 ⟨d, rfl, hS4, hb4, hg4⟩
  have hgl := HC.out.lt g rfl
  have HC4 := hide (HC.out.kept hg4 (.inr fun e => by injection e with e; have : g = w.heap.size := e; omega))
  have HB4 := hide (HB3.out.trans hb4)
  have HS4 := hide hS4
  have hz4 := hg4.size
  have hz0 := HB3.out.size
  clear hS4 hb4 hg4 HC HB3 HS3
  cases d
  · clear HS4
    go_wp2_with fail
    go_ret
    exact ⟨_, _, [⟨nmBig, 10000, 60 + r, 20⟩], rfl, by simp, cru1 r0 r1', (by intro x hx; simp only [List.mem_singleton] at hx; subst hx; exact nm_facts.2.2.1), HC4.out.at_ (fun _ => rfl), HB4.out⟩
  · go_wp2_with fail
    refine (srcPick w.heap.size w.heap.size _ 70 _ HS4.out (by omega) (by omega)).mono ?_
    rintro e w5 ⟨r2, rfl, p0, p1, hS5, hb5, hg5⟩
    have p1' := p1 (by omega)
    have k2 : IntKind.i64.wrap (1 + r2) = 1 + r2 := IntWalk.i64_in _ (by omega)
    have k3 : IntKind.i64.wrap (100 * (1 + r2)) = 100 * (1 + r2) := IntWalk.i64_in _ (by omega)
    have hz5 := hg5.size
    have hba : Below w5.heap.size w5 (w5.alloc (.cells #[.string ⟨#[115, 109, 97, 108, 108]⟩, .int .i64 (100 * (1 + r2)), .int .i64 30, .int .i64 0] 95)) := (Below.refl _ _).alloc (Nat.le_refl _) _
    have HC6 := hide ((HC4.out.kept hg5 (.inr fun e => by injection e with e; have : g = w.heap.size := e; omega)).below hba)
    have HB6 := hide ((HB4.out.trans hb5).alloc (show w.heap.size ≤ w5.heap.size by omega) (.cells #[.string ⟨#[115, 109, 97, 108, 108]⟩, .int .i64 (100 * (1 + r2)), .int .i64 30, .int .i64 0] 95))
    have HS6 := hide (hS5.below hba)
    have HQ6 := hide (heap_alloc_new w5 (.cells #[.string ⟨#[115, 109, 97, 108, 108]⟩, .int .i64 (100 * (1 + r2)), .int .i64 30, .int .i64 0] 95))
    have hql : w5.heap.size < (w5.alloc (.cells #[.string ⟨#[115, 109, 97, 108, 108]⟩, .int .i64 (100 * (1 + r2)), .int .i64 30, .int .i64 0] 95)).heap.size := by simp
    clear p1 hS5 hb5 hg5 HC4 HB4 HS4 hba
    go_upto_region 5 with fail
    generalize (w5.alloc (.cells #[.string ⟨#[115, 109, 97, 108, 108]⟩, .int .i64 (100 * (1 + r2)), .int .i64 30, .int .i64 0] 95)) = w6 at *
    generalize w5.heap.size = q at *
    go_wp2_with fail
    refine (srcPick w.heap.size w.heap.size _ 9 _ HS6.out (by omega) (by omega)).mono ?_
    rintro e w7 ⟨r3, rfl, v0, v1, hS7, hb7, hg7⟩
    have v1' := v1 (by omega)
    have k4 : IntKind.i64.wrap (10 * r3) = 10 * r3 := IntWalk.i64_in _ (by omega)
    have hq7 := (hg7.block q hql (by simp; omega)).trans HQ6.out
    have hz7 := hg7.size
    have m0 : w7.cell? ⟨q, 0, none⟩ = some (.string ⟨#[115, 109, 97, 108, 108]⟩) := by simp [World.cell?, hq7]
    have m1 : w7.cell? ⟨q, 1, none⟩ = some (.int .i64 (100 * (1 + r2))) := by simp [World.cell?, hq7]
    have m2 : w7.cell? ⟨q, 2, none⟩ = some (.int .i64 30) := by simp [World.cell?, hq7]
    have m3 : w7.cell? ⟨q, 3, none⟩ = some (.int .i64 0) := by simp [World.cell?, hq7]
    have n3 : w7.frozen? ⟨q, 3, none⟩ = false := by simp [World.frozen?, hq7]
    have GQ := grown_set (grown_refl w7 (some q)) 3 (.int .i64 (10 * r3))
    have HC8 := hide ((HC6.out.kept hg7 (.inr fun e => by injection e with e; have : g = w.heap.size := e; omega)).kept GQ (.inr fun e => by injection e with e; have : g = q := e; omega))
    have HB8 := hide ((HB6.out.trans hb7).setCell (p := ⟨q, 3, none⟩) (show w.heap.size ≤ q by omega) (.int .i64 (10 * r3)))
    have hz8 : w.heap.size + 1 ≤ (w7.setCell ⟨q, 3, none⟩ (.int .i64 (10 * r3))).heap.size := by simp [World.setCell]; omega
    clear hq7 v1 hS7 hb7 hg7 HC6 HB6 HS6 HQ6 GQ
    go_wp2_with (at_builtin; refine wpList_appCruc rfl _ _ rfl (w.heap.size + 1) rfl HC8.out rfl (by simp) ?_ ?_; (focus (exact hz8)); intro A9 c9 w9 ho9 hb9 _hg9; have HO9 := hide ho9; have HB9 := hide (HB8.out.trans (hb9.mono (Nat.le_succ _))); clear ho9 hb9)
    go_ret
    exact ⟨A9, c9, [⟨nmBig, 10000, 60 + r, 20⟩, ⟨nmSmall, 100 * (1 + r2), 30, 10 * r3⟩], rfl, by simp, cru2 r0 r1' (by omega) (by omega) (by omega) (by omega), (by
      intro x hx
      simp only [List.mem_cons, List.not_mem_nil, or_false] at hx
      rcases hx with rfl | rfl
      · exact nm_facts.2.2.1
      · exact nm_facts.2.2.2.1), HO9.out.at_ (fun _ => rfl), HB9.out⟩
end Go.Proofs.Ytklmbgefdopifaa
