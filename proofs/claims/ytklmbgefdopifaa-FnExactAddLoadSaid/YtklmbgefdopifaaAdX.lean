/- The reference's AddLoad. -/
import Derived.Test.YtklmbgefdopifaaAdK
import Derived.Laws.AppendOwnNone
namespace Go.Proofs.Ytklmbgefdopifaa
open Go.RowKit

/-- An append of loads that stand in some place, nil let in. -/
theorem wpList_appAnyL {w : World} {ops : Array Oper} {rest : List Oper} {o : Oper} {a : Act} {Q : Exit → Act → World → Prop} (hgd : o.guard = none) (s x : Operand)
    (ho : o.op = .call { callee := .builtin .append, args := #[s, x], argTypes := #[28, 28] }) (B : Nat) {v : Value} {xs ys : List LoadR} (hs : a.eval s = v) (hown : OwnL w B v xs) {A2 : Option Addr} {n c2 : Nat}
    (hx : a.eval x = .slice A2 n c2) (hn2 : n = ys.length) (hy : (A2 = none ∧ c2 = 0 ∧ ys = []) ∨ ∃ b off, A2 = some ⟨b, off, none⟩ ∧ SlAt encLoad 2 w (some ⟨b, off, none⟩) ys) (hn : xs.length + ys.length ≤ 1048577) (hB : B ≤ w.heap.size)
    (h : ∀ (A : Option Addr) (c : Nat) (w' : World), OwnL w' B (.slice A (xs.length + ys.length) c) (xs ++ ys) → Below B w w' → wpList Try.prog ops Q rest (a.put o.dst (.slice A (xs.length + ys.length) c)) w') : wpList Try.prog ops Q (o :: rest) a w := by
  obtain ⟨i0, hi0, hz0, hzs, hzb⟩ := info_parts info_LdA
  subst hn2
  rcases hy with ⟨rfl, rfl, rfl⟩ | ⟨b, off, rfl, hy⟩
  · obtain ⟨A, c, rfl⟩ := Own.slice hown
    refine wpList_append_own_none hgd s x 28 ho B 34 i0 2 Try.underlying28 hi0 _ xs.length (xs.flatMap encLoad) hs hown hx ?_
    have := h A c w (by rw [List.append_nil]; exact hown) (Below.refl _ _)
    simpa using this
  · exact wpList_appAll (sz := 2) (bytes := 16) Try.underlying28 hi0 hz0 hzs hzb rfl (by omega) (by omega) (fun _ => rfl) encL_one hgd s x ho B hs hown hx hy hn hB fun A c w' h1 h2 _ => h A c w' h1 h2
theorem own_some_L {w : World} {B n c : Nat} {A : Option Addr} {ls : List LoadR} (h : OwnL w B (.slice A n c) ls) : (A = none ∧ c = 0 ∧ n = 0) ∨ ∃ g, A = some ⟨g, 0, none⟩ ∧ n ≤ c ∧ c ≤ 9223372036854775807 := by
  rcases h.2 with ⟨e, q⟩ | ⟨g, cap, cur, e, _, _, h1, h2, _⟩
  · injection e with e1 e2 e3
    exact .inl ⟨e1, e3, e2⟩
  · injection e with e1 e2 e3
    unfold maxLen at h2
    exact .inr ⟨g, e1, by omega, by omega⟩
theorem slAt_dropL {w : World} {g p : Nat} {ls : List LoadR} (h : SlAt encLoad 2 w (some ⟨g, 0, none⟩) ls) : SlAt encLoad 2 w (some ⟨g, p * 2, none⟩) (ls.drop p) := by
  intro k hk
  rw [List.length_drop] at hk
  obtain ⟨b, off, e, hb, hc⟩ := h (p + k) (by omega)
  injection e with e
  injection e with e1 e2
  subst e1
  subst e2
  refine ⟨g, p * 2, rfl, hb, fun j v hv => ?_⟩
  have q := hc j v (by simpa using hv)
  rw [show p * 2 + k * 2 + j = 0 + (p + k) * 2 + j by omega]
  exact q
theorem slAt_takeL {w : World} {A : Option Addr} {p : Nat} {ls : List LoadR} (h : SlAt encLoad 2 w A ls) : SlAt encLoad 2 w A (ls.take p) := by
  intro k hk
  rw [List.length_take] at hk
  obtain ⟨b, off, e, hb, hc⟩ := h k (by omega)
  exact ⟨b, off, e, hb, fun j v hv => hc j v (by simpa using hv)⟩
theorem slAt_ifL {w : World} {g c q c2 : Nat} {ls : List LoadR} (h : SlAt encLoad 2 w (some ⟨g, 0, none⟩) ls) (hq : c = q → ls.length ≤ q) : ((if c = q then some ⟨g, 0, none⟩ else some ⟨g, q * 2, none⟩ : Option Addr) = none ∧ c2 = 0 ∧ ls.drop q = []) ∨ ∃ b off, (if c = q then some ⟨g, 0, none⟩ else some ⟨g, q * 2, none⟩ : Option Addr) = some ⟨b, off, none⟩ ∧ SlAt encLoad 2 w (some ⟨b, off, none⟩) (ls.drop q) := by
  right
  by_cases hc : c = q
  · rw [if_pos hc]
    have := hq hc
    exact ⟨g, 0, rfl, fun k hk => absurd hk (by rw [List.length_drop]; omega)⟩
  · rw [if_neg hc]
    exact ⟨g, q * 2, rfl, slAt_dropL h⟩
theorem rising_L {span : Int} {ls : List LoadR} (h : ∀ k, ¬ badL span ls k) : ∀ (d i : Nat) (hj : i + d < ls.length), (ls[i]'(by omega)).at_ ≤ ls[i + d].at_ := by
  intro d
  induction d with
  | zero => intro i hj; exact Int.le_refl _
  | succ d ih =>
    intro i hj
    have h1 := ih i (by omega)
    have h2 : ¬ ls[i + d + 1].at_ < (ls[i + d]'(by omega)).at_ := fun q => h (i + d + 1) ⟨hj, .inr ⟨by omega, q⟩⟩
    have e : i + (d + 1) = i + d + 1 := by omega
    simp only [e]
    omega
set_option maxRecDepth 100000 in
set_option maxHeartbeats 1000000 in
theorem specl21Own (nm : ByteArray) (span wd dp wood : Int) (bl ba oa c : Nat) (ls : List LoadR) (w : World) (h : SlAt encLoad 2 w (some ⟨ba, oa, none⟩) ls) (hn : ls.length ≤ 100000)
    (g0 : w.cell? ⟨bl, 0, none⟩ = some (.string nm)) (g1 : w.cell? ⟨bl, 1, none⟩ = some (.int .i64 span)) (g2 : w.cell? ⟨bl, 2, none⟩ = some (.int .i64 wd)) (g3 : w.cell? ⟨bl, 3, none⟩ = some (.int .i64 dp)) (g4 : w.cell? ⟨bl, 4, none⟩ = some (.int .i64 wood)) (g5 : w.cell? ⟨bl, 5, none⟩ = some (.slice (some ⟨ba, oa, none⟩) ls.length c)) :
    Calls Try.prog 43 #[.pointer (some ⟨bl, 0, none⟩)] w fun e w' => ∃ (A : Option Addr) (c' : Nat), e = .returned (.agg #[.string nm, .int .i64 span, .int .i64 wd, .int .i64 dp, .int .i64 wood, .slice A ls.length c']) ∧ OwnL w' w.heap.size (.slice A ls.length c') ls ∧ Below w.heap.size w w' := by
  have HX := hide h
  have HC := hide (And.intro g0 (And.intro g1 (And.intro g2 (And.intro g3 (And.intro g4 g5)))))
  have hbl : bl < w.heap.size := World.block_lt_of_cell? w _ g0
  clear h g0 g1 g2 g3 g4 g5
  obtain ⟨g0, g1, g2, g3, g4, g5⟩ := HC.out
  go_enter Try.func43, Try.ntmps43
  go_upto_region 2 with fail
  have hw1 : (w.alloc (.cells #[.string ⟨#[]⟩, .int .i64 0, .int .i64 0, .int .i64 0, .int .i64 0, .slice none 0 0] 30)).heap.size = w.heap.size + 1 := by simp
  have hw2 : ((w.alloc (.cells #[.string ⟨#[]⟩, .int .i64 0, .int .i64 0, .int .i64 0, .int .i64 0, .slice none 0 0] 30)).alloc (.cells #[.string nm, .int .i64 span, .int .i64 wd, .int .i64 dp, .int .i64 wood, .slice (some ⟨ba, oa, none⟩) ls.length c] 30)).heap.size = w.heap.size + 2 := by simp
  have hw3 : (((w.alloc (.cells #[.string ⟨#[]⟩, .int .i64 0, .int .i64 0, .int .i64 0, .int .i64 0, .slice none 0 0] 30)).alloc (.cells #[.string nm, .int .i64 span, .int .i64 wd, .int .i64 dp, .int .i64 wood, .slice (some ⟨ba, oa, none⟩) ls.length c] 30)).alloc (.cells #[] 34)).heap.size = w.heap.size + 3 := by simp
  have HM := hide (show OwnL (((w.alloc (.cells #[.string ⟨#[]⟩, .int .i64 0, .int .i64 0, .int .i64 0, .int .i64 0, .slice none 0 0] 30)).alloc (.cells #[.string nm, .int .i64 span, .int .i64 wd, .int .i64 dp, .int .i64 wood, .slice (some ⟨ba, oa, none⟩) ls.length c] 30)).alloc (.cells #[] 34)) (w.heap.size + 2) (.slice (some ⟨w.heap.size + 2, 0, none⟩) 0 0) [] from own_made _ (by simp) (by simp))
  have HBW := hide (show Below w.heap.size w (((w.alloc (.cells #[.string ⟨#[]⟩, .int .i64 0, .int .i64 0, .int .i64 0, .int .i64 0, .slice none 0 0] 30)).alloc (.cells #[.string nm, .int .i64 span, .int .i64 wd, .int .i64 dp, .int .i64 wood, .slice (some ⟨ba, oa, none⟩) ls.length c] 30)).alloc (.cells #[] 34)) from (by repeat (first | with_reducible exact Below.refl _ _ | with_reducible assumption | (with_reducible refine Below.drew ?_) | (with_reducible refine below_drewN ?_ _) | ((with_reducible refine Below.alloc ?_ ?_ _); rotate_left; (focus (first | omega | (simp; omega) | simp))) | ((with_reducible refine Below.setCell ?_ ?_ _); rotate_left; (focus (first | omega | (simp; omega) | simp))) | (refine Below.trans ?_ (Below.mono (by assumption) (by first | omega | (simp; omega) | simp))))))
  have HX3 := hide (HX.out.below HBW.out)
  have HQ3 := hide (show (((w.alloc (.cells #[.string ⟨#[]⟩, .int .i64 0, .int .i64 0, .int .i64 0, .int .i64 0, .slice none 0 0] 30)).alloc (.cells #[.string nm, .int .i64 span, .int .i64 wd, .int .i64 dp, .int .i64 wood, .slice (some ⟨ba, oa, none⟩) ls.length c] 30)).alloc (.cells #[] 34)).heap[w.heap.size + 1]? = some (.cells #[.string nm, .int .i64 span, .int .i64 wd, .int .i64 dp, .int .i64 wood, .slice (some ⟨ba, oa, none⟩) ls.length c] 30 (0, 0)) from (heap_alloc_old _ _ (by omega)).trans (by have q := heap_alloc_new (w.alloc (.cells #[.string ⟨#[]⟩, .int .i64 0, .int .i64 0, .int .i64 0, .int .i64 0, .slice none 0 0] 30)) (.cells #[.string nm, .int .i64 span, .int .i64 wd, .int .i64 dp, .int .i64 wood, .slice (some ⟨ba, oa, none⟩) ls.length c] 30); rw [hw1] at q; exact q))
  have HR3 := hide (show (((w.alloc (.cells #[.string ⟨#[]⟩, .int .i64 0, .int .i64 0, .int .i64 0, .int .i64 0, .slice none 0 0] 30)).alloc (.cells #[.string nm, .int .i64 span, .int .i64 wd, .int .i64 dp, .int .i64 wood, .slice (some ⟨ba, oa, none⟩) ls.length c] 30)).alloc (.cells #[] 34)).heap[w.heap.size]? = some (.cells #[.string ⟨#[]⟩, .int .i64 0, .int .i64 0, .int .i64 0, .int .i64 0, .slice none 0 0] 30 (0, 0)) from (heap_alloc_old _ _ (by omega)).trans ((heap_alloc_old _ _ (by omega)).trans (heap_alloc_new w _)))
  have g5' := (HBW.out.cell (p := ⟨bl, 5, none⟩) hbl).trans g5
  have HW3 := hide hw3
  clear hw1 hw2 hw3 g0 g1 g2 g3 g4 g5
  have hlen0 : (([] : List LoadR).length + ls.length) = ls.length := by simp
  go_wp2_with (at_builtin; go_loud (refine wpList_appAnyL rfl _ _ rfl (w.heap.size + 2) rfl HM.out rfl rfl (.inr ⟨ba, oa, rfl, HX3.out⟩) (by simp; omega) (by simp) ?_; intro A1 c1 w1 ho1 hb1; rw [hlen0] at ho1 ⊢; have hQ := (hb1.block (w.heap.size + 1) (by omega)).trans HQ3.out; have hR := (hb1.block w.heap.size (by omega)).trans HR3.out; have q0 : w1.cell? ⟨w.heap.size + 1, 0, none⟩ = some (.string nm) := by {simp [World.cell?, hQ]}; have q1 : w1.cell? ⟨w.heap.size + 1, 1, none⟩ = some (.int .i64 span) := by {simp [World.cell?, hQ]}; have q2 : w1.cell? ⟨w.heap.size + 1, 2, none⟩ = some (.int .i64 wd) := by {simp [World.cell?, hQ]}; have q3 : w1.cell? ⟨w.heap.size + 1, 3, none⟩ = some (.int .i64 dp) := by {simp [World.cell?, hQ]}; have q4 : w1.cell? ⟨w.heap.size + 1, 4, none⟩ = some (.int .i64 wood) := by {simp [World.cell?, hQ]}; have q5 : w1.cell? ⟨w.heap.size + 1, 5, none⟩ = some (.slice (some ⟨ba, oa, none⟩) ls.length c) := by {simp [World.cell?, hQ]}; have k5 : w1.frozen? ⟨w.heap.size + 1, 5, none⟩ = false := by {simp [World.frozen?, hQ]}; have r0 : w1.cell? ⟨w.heap.size, 0, none⟩ = some (.string ⟨#[]⟩) := by {simp [World.cell?, hR]}; have y0 : w1.frozen? ⟨w.heap.size, 0, none⟩ = false := by {simp [World.frozen?, hR]}; have r1 : w1.cell? ⟨w.heap.size, 1, none⟩ = some (.int .i64 0) := by {simp [World.cell?, hR]}; have y1 : w1.frozen? ⟨w.heap.size, 1, none⟩ = false := by {simp [World.frozen?, hR]}; have r2 : w1.cell? ⟨w.heap.size, 2, none⟩ = some (.int .i64 0) := by {simp [World.cell?, hR]}; have y2 : w1.frozen? ⟨w.heap.size, 2, none⟩ = false := by {simp [World.frozen?, hR]}; have r3 : w1.cell? ⟨w.heap.size, 3, none⟩ = some (.int .i64 0) := by {simp [World.cell?, hR]}; have y3 : w1.frozen? ⟨w.heap.size, 3, none⟩ = false := by {simp [World.frozen?, hR]}; have r4 : w1.cell? ⟨w.heap.size, 4, none⟩ = some (.int .i64 0) := by {simp [World.cell?, hR]}; have y4 : w1.frozen? ⟨w.heap.size, 4, none⟩ = false := by {simp [World.frozen?, hR]}; have r5 : w1.cell? ⟨w.heap.size, 5, none⟩ = some (.slice none 0 0) := by {simp [World.cell?, hR]}; have y5 : w1.frozen? ⟨w.heap.size, 5, none⟩ = false := by {simp [World.frozen?, hR]}; have HO1 := hide (show OwnL w1 (w.heap.size + 2) (.slice A1 ls.length c1) ls from by simpa using ho1); have HB1 := hide (show Below w.heap.size w w1 from HBW.out.trans (hb1.mono (by omega))); have hz1 : w.heap.size + 3 ≤ w1.heap.size := by {have := hb1.size; have := HW3.out; omega}; clear hQ hR ho1 hb1))
  refine bodyPost_ret (v := .agg #[.string nm, .int .i64 span, .int .i64 wd, .int .i64 dp, .int .i64 wood, .slice A1 ls.length c1]) (by simp [results, Try.results43, go_sem, r0, r1, r2, r3, r4, r5]) rfl ⟨A1, c1, rfl, ?_, ?_⟩
  · refine Own.mono (B := w.heap.size + 2) ?_ (by omega)
    repeat (first | with_reducible exact HO1.out | with_reducible refine own_setOut ?_ (by omega))
  · have hb := HB1.out
    exact (by repeat (first | with_reducible exact Below.refl _ _ | with_reducible assumption | (with_reducible refine Below.drew ?_) | (with_reducible refine below_drewN ?_ _) | ((with_reducible refine Below.alloc ?_ ?_ _); rotate_left; (focus (first | omega | (simp; omega) | simp))) | ((with_reducible refine Below.setCell ?_ ?_ _); rotate_left; (focus (first | omega | (simp; omega) | simp))) | (refine Below.trans ?_ (Below.mono (by assumption) (by first | omega | (simp; omega) | simp)))))
set_option maxRecDepth 100000 in
set_option maxHeartbeats 8000000 in
theorem specAddLoad (nm : ByteArray) (span wd dp wood : Int) (ba oa c : Nat) (ls : List LoadR) (a t : Int) (w : World) (h : SlAt encLoad 2 w (some ⟨ba, oa, none⟩) ls) (hn : ls.length ≤ 1048576) (hs : nm.size ≤ maxLen) :
    Calls Try.prog 9 #[.agg #[.string nm, .int .i64 span, .int .i64 wd, .int .i64 dp, .int .i64 wood, .slice (some ⟨ba, oa, none⟩) ls.length c], .agg #[.int .i64 a, .int .i64 t]] w (BmRes (fun r => addR nm span wd dp wood ls a t = r) w) := by
  have HX := hide h
  clear h
  have HBK := hide (fun (W : World) (h : Below (w.heap.size + 3) (((w.alloc (.cells #[.string nm, .int .i64 span, .int .i64 wd, .int .i64 dp, .int .i64 wood, .slice (some ⟨ba, oa, none⟩) ls.length c] 30)).alloc (.cells #[.int .i64 a, .int .i64 t] 34)).alloc (.cells #[.string ⟨#[]⟩, .int .i64 0, .int .i64 0, .int .i64 0, .int .i64 0, .slice none 0 0] 30)) W) => (show W.heap[w.heap.size]? = some (.cells #[.string nm, .int .i64 span, .int .i64 wd, .int .i64 dp, .int .i64 wood, .slice (some ⟨ba, oa, none⟩) ls.length c] 30 (0, 0)) ∧ W.heap[w.heap.size + 1]? = some (.cells #[.int .i64 a, .int .i64 t] 34 (0, 0)) ∧ W.heap[w.heap.size + 2]? = some (.cells #[.string ⟨#[]⟩, .int .i64 0, .int .i64 0, .int .i64 0, .int .i64 0, .slice none 0 0] 30 (0, 0)) ∧ Below w.heap.size w W ∧ w.heap.size + 3 ≤ W.heap.size from by
    have z1 : (w.alloc (.cells #[.string nm, .int .i64 span, .int .i64 wd, .int .i64 dp, .int .i64 wood, .slice (some ⟨ba, oa, none⟩) ls.length c] 30)).heap.size = w.heap.size + 1 := by simp
    have z2 : ((w.alloc (.cells #[.string nm, .int .i64 span, .int .i64 wd, .int .i64 dp, .int .i64 wood, .slice (some ⟨ba, oa, none⟩) ls.length c] 30)).alloc (.cells #[.int .i64 a, .int .i64 t] 34)).heap.size = w.heap.size + 2 := by simp
    have z3 : (((w.alloc (.cells #[.string nm, .int .i64 span, .int .i64 wd, .int .i64 dp, .int .i64 wood, .slice (some ⟨ba, oa, none⟩) ls.length c] 30)).alloc (.cells #[.int .i64 a, .int .i64 t] 34)).alloc (.cells #[.string ⟨#[]⟩, .int .i64 0, .int .i64 0, .int .i64 0, .int .i64 0, .slice none 0 0] 30)).heap.size = w.heap.size + 3 := by simp
    refine ⟨(h.block _ (by omega)).trans ((heap_alloc_old _ _ (by omega)).trans ((heap_alloc_old _ _ (by omega)).trans (heap_alloc_new w _))), (h.block _ (by omega)).trans ((heap_alloc_old _ _ (by omega)).trans ?_), (h.block _ (by omega)).trans ?_, (show Below w.heap.size w (((w.alloc (.cells #[.string nm, .int .i64 span, .int .i64 wd, .int .i64 dp, .int .i64 wood, .slice (some ⟨ba, oa, none⟩) ls.length c] 30)).alloc (.cells #[.int .i64 a, .int .i64 t] 34)).alloc (.cells #[.string ⟨#[]⟩, .int .i64 0, .int .i64 0, .int .i64 0, .int .i64 0, .slice none 0 0] 30)) from (by repeat (first | with_reducible exact Below.refl _ _ | with_reducible assumption | (with_reducible refine Below.drew ?_) | (with_reducible refine below_drewN ?_ _) | ((with_reducible refine Below.alloc ?_ ?_ _); rotate_left; (focus (first | omega | (simp; omega) | simp))) | ((with_reducible refine Below.setCell ?_ ?_ _); rotate_left; (focus (first | omega | (simp; omega) | simp))) | (refine Below.trans ?_ (Below.mono (by assumption) (by first | omega | (simp; omega) | simp)))))).trans (h.mono (by omega)), by have := h.size; omega⟩
    · have q := heap_alloc_new (w.alloc (.cells #[.string nm, .int .i64 span, .int .i64 wd, .int .i64 dp, .int .i64 wood, .slice (some ⟨ba, oa, none⟩) ls.length c] 30)) (.cells #[.int .i64 a, .int .i64 t] 34)
      rw [z1] at q
      exact q
    · have q := heap_alloc_new ((w.alloc (.cells #[.string nm, .int .i64 span, .int .i64 wd, .int .i64 dp, .int .i64 wood, .slice (some ⟨ba, oa, none⟩) ls.length c] 30)).alloc (.cells #[.int .i64 a, .int .i64 t] 34)) (.cells #[.string ⟨#[]⟩, .int .i64 0, .int .i64 0, .int .i64 0, .int .i64 0, .slice none 0 0] 30)
      rw [z2] at q
      exact q))
  have HXW := hide (fun (W : World) (h : Below (w.heap.size + 3) (((w.alloc (.cells #[.string nm, .int .i64 span, .int .i64 wd, .int .i64 dp, .int .i64 wood, .slice (some ⟨ba, oa, none⟩) ls.length c] 30)).alloc (.cells #[.int .i64 a, .int .i64 t] 34)).alloc (.cells #[.string ⟨#[]⟩, .int .i64 0, .int .i64 0, .int .i64 0, .int .i64 0, .slice none 0 0] 30)) W) => (show SlAt encLoad 2 W (some ⟨ba, oa, none⟩) ls from HX.out.below ((HBK.out W h).2.2.2.1)))
  have B0 := hide (show Below (w.heap.size + 3) (((w.alloc (.cells #[.string nm, .int .i64 span, .int .i64 wd, .int .i64 dp, .int .i64 wood, .slice (some ⟨ba, oa, none⟩) ls.length c] 30)).alloc (.cells #[.int .i64 a, .int .i64 t] 34)).alloc (.cells #[.string ⟨#[]⟩, .int .i64 0, .int .i64 0, .int .i64 0, .int .i64 0, .slice none 0 0] 30)) (((w.alloc (.cells #[.string nm, .int .i64 span, .int .i64 wd, .int .i64 dp, .int .i64 wood, .slice (some ⟨ba, oa, none⟩) ls.length c] 30)).alloc (.cells #[.int .i64 a, .int .i64 t] 34)).alloc (.cells #[.string ⟨#[]⟩, .int .i64 0, .int .i64 0, .int .i64 0, .int .i64 0, .slice none 0 0] 30)) from Below.refl _ _)
  have hz0 : (((w.alloc (.cells #[.string nm, .int .i64 span, .int .i64 wd, .int .i64 dp, .int .i64 wood, .slice (some ⟨ba, oa, none⟩) ls.length c] 30)).alloc (.cells #[.int .i64 a, .int .i64 t] 34)).alloc (.cells #[.string ⟨#[]⟩, .int .i64 0, .int .i64 0, .int .i64 0, .int .i64 0, .slice none 0 0] 30)).heap.size = w.heap.size + 3 := by simp
  go_enter Try.func9, Try.ntmps9
  go_wp2_with fail
  generalize hW0 : (((w.alloc (.cells #[.string nm, .int .i64 span, .int .i64 wd, .int .i64 dp, .int .i64 wood, .slice (some ⟨ba, oa, none⟩) ls.length c] 30)).alloc (.cells #[.int .i64 a, .int .i64 t] 34)).alloc (.cells #[.string ⟨#[]⟩, .int .i64 0, .int .i64 0, .int .i64 0, .int .i64 0, .slice none 0 0] 30)) = W0 at *
  clear hW0
  obtain ⟨hQ, hL, hR, hBW, hzW⟩ := HBK.out _ B0.out
  have g0 : W0.cell? ⟨w.heap.size, 0, none⟩ = some (.string nm) := by simp [World.cell?, hQ]
  have g1 : W0.cell? ⟨w.heap.size, 1, none⟩ = some (.int .i64 span) := by simp [World.cell?, hQ]
  have g2 : W0.cell? ⟨w.heap.size, 2, none⟩ = some (.int .i64 wd) := by simp [World.cell?, hQ]
  have g3 : W0.cell? ⟨w.heap.size, 3, none⟩ = some (.int .i64 dp) := by simp [World.cell?, hQ]
  have g4 : W0.cell? ⟨w.heap.size, 4, none⟩ = some (.int .i64 wood) := by simp [World.cell?, hQ]
  have g5 : W0.cell? ⟨w.heap.size, 5, none⟩ = some (.slice (some ⟨ba, oa, none⟩) ls.length c) := by simp [World.cell?, hQ]
  have l0 : W0.cell? ⟨w.heap.size + 1, 0, none⟩ = some (.int .i64 a) := by simp [World.cell?, hL]
  have l1 : W0.cell? ⟨w.heap.size + 1, 1, none⟩ = some (.int .i64 t) := by simp [World.cell?, hL]
  have r0 : W0.cell? ⟨w.heap.size + 2, 0, none⟩ = some (.string ⟨#[]⟩) := by {simp [World.cell?, hR]}
  have y0 : W0.frozen? ⟨w.heap.size + 2, 0, none⟩ = false := by {simp [World.frozen?, hR]}
  have r1 : W0.cell? ⟨w.heap.size + 2, 1, none⟩ = some (.int .i64 0) := by {simp [World.cell?, hR]}
  have y1 : W0.frozen? ⟨w.heap.size + 2, 1, none⟩ = false := by {simp [World.frozen?, hR]}
  have r2 : W0.cell? ⟨w.heap.size + 2, 2, none⟩ = some (.int .i64 0) := by {simp [World.cell?, hR]}
  have y2 : W0.frozen? ⟨w.heap.size + 2, 2, none⟩ = false := by {simp [World.frozen?, hR]}
  have r3 : W0.cell? ⟨w.heap.size + 2, 3, none⟩ = some (.int .i64 0) := by {simp [World.cell?, hR]}
  have y3 : W0.frozen? ⟨w.heap.size + 2, 3, none⟩ = false := by {simp [World.frozen?, hR]}
  have r4 : W0.cell? ⟨w.heap.size + 2, 4, none⟩ = some (.int .i64 0) := by {simp [World.cell?, hR]}
  have y4 : W0.frozen? ⟨w.heap.size + 2, 4, none⟩ = false := by {simp [World.frozen?, hR]}
  have r5 : W0.cell? ⟨w.heap.size + 2, 5, none⟩ = some (.slice none 0 0) := by {simp [World.cell?, hR]}
  have y5 : W0.frozen? ⟨w.heap.size + 2, 5, none⟩ = false := by {simp [World.frozen?, hR]}
  have zq0 : w.heap.size < W0.heap.size := by omega
  have zl0 : w.heap.size + 1 < W0.heap.size := by omega
  have zr0 : w.heap.size + 2 < W0.heap.size := by omega
  clear hQ hL hR
  refine (specl21Ok nm span wd dp wood (some ⟨ba, oa, none⟩) c ls w.heap.size _ (HXW.out _ B0.out) hn hs g0 g1 g2 g3 g4 g5).mono ?_
  rintro e w1 ⟨rfl, hb1⟩
  clear g0 g1 g2 g3 g4 g5 l0 l1 r0 r1 r2 r3 r4 r5 y0 y1 y2 y3 y4 y5 hBW hzW
  have B1 := hide (show Below (w.heap.size + 3) W0 w1 from hb1.mono (by omega))
  clear hb1
  cases hv : vBeam nm span wd dp wood ls
  · have e := hide (addR_1 (a := a) (t := t) hv)
    obtain ⟨hQ, hL, hR, hBW, hzW⟩ := HBK.out _ B1.out
    have g0 : w1.cell? ⟨w.heap.size, 0, none⟩ = some (.string nm) := by simp [World.cell?, hQ]
    have g1 : w1.cell? ⟨w.heap.size, 1, none⟩ = some (.int .i64 span) := by simp [World.cell?, hQ]
    have g2 : w1.cell? ⟨w.heap.size, 2, none⟩ = some (.int .i64 wd) := by simp [World.cell?, hQ]
    have g3 : w1.cell? ⟨w.heap.size, 3, none⟩ = some (.int .i64 dp) := by simp [World.cell?, hQ]
    have g4 : w1.cell? ⟨w.heap.size, 4, none⟩ = some (.int .i64 wood) := by simp [World.cell?, hQ]
    have g5 : w1.cell? ⟨w.heap.size, 5, none⟩ = some (.slice (some ⟨ba, oa, none⟩) ls.length c) := by simp [World.cell?, hQ]
    have l0 : w1.cell? ⟨w.heap.size + 1, 0, none⟩ = some (.int .i64 a) := by simp [World.cell?, hL]
    have l1 : w1.cell? ⟨w.heap.size + 1, 1, none⟩ = some (.int .i64 t) := by simp [World.cell?, hL]
    have r0 : w1.cell? ⟨w.heap.size + 2, 0, none⟩ = some (.string ⟨#[]⟩) := by {simp [World.cell?, hR]}
    have y0 : w1.frozen? ⟨w.heap.size + 2, 0, none⟩ = false := by {simp [World.frozen?, hR]}
    have r1 : w1.cell? ⟨w.heap.size + 2, 1, none⟩ = some (.int .i64 0) := by {simp [World.cell?, hR]}
    have y1 : w1.frozen? ⟨w.heap.size + 2, 1, none⟩ = false := by {simp [World.frozen?, hR]}
    have r2 : w1.cell? ⟨w.heap.size + 2, 2, none⟩ = some (.int .i64 0) := by {simp [World.cell?, hR]}
    have y2 : w1.frozen? ⟨w.heap.size + 2, 2, none⟩ = false := by {simp [World.frozen?, hR]}
    have r3 : w1.cell? ⟨w.heap.size + 2, 3, none⟩ = some (.int .i64 0) := by {simp [World.cell?, hR]}
    have y3 : w1.frozen? ⟨w.heap.size + 2, 3, none⟩ = false := by {simp [World.frozen?, hR]}
    have r4 : w1.cell? ⟨w.heap.size + 2, 4, none⟩ = some (.int .i64 0) := by {simp [World.cell?, hR]}
    have y4 : w1.frozen? ⟨w.heap.size + 2, 4, none⟩ = false := by {simp [World.frozen?, hR]}
    have r5 : w1.cell? ⟨w.heap.size + 2, 5, none⟩ = some (.slice none 0 0) := by {simp [World.cell?, hR]}
    have y5 : w1.frozen? ⟨w.heap.size + 2, 5, none⟩ = false := by {simp [World.frozen?, hR]}
    have zq1 : w.heap.size < w1.heap.size := by omega
    have zl1 : w.heap.size + 1 < w1.heap.size := by omega
    have zr1 : w.heap.size + 2 < w1.heap.size := by omega
    clear hQ hL hR
    go_wp2_with fail
    refine bodyPost_ret (v := .tuple #[.agg #[.string ⟨#[]⟩, .int .i64 0, .int .i64 0, .int .i64 0, .int .i64 0, .slice none 0 0], .int .i64 1]) (by simp [results, Try.results9, go_sem, r0, r1, r2, r3, r4, r5]) rfl ?_
    exact bmRes_nil e.out (by repeat (first | with_reducible exact Below.refl _ _ | with_reducible assumption | (with_reducible refine Below.drew ?_) | (with_reducible refine below_drewN ?_ _) | ((with_reducible refine Below.alloc ?_ ?_ _); rotate_left; (focus (first | omega | (simp; omega) | simp))) | ((with_reducible refine Below.setCell ?_ ?_ _); rotate_left; (focus (first | omega | (simp; omega) | simp))) | (refine Below.trans ?_ (Below.mono (by assumption) (by first | omega | (simp; omega) | simp)))))
  · obtain ⟨hQ, hL, hR, hBW, hzW⟩ := HBK.out _ B1.out
    have g0 : w1.cell? ⟨w.heap.size, 0, none⟩ = some (.string nm) := by simp [World.cell?, hQ]
    have g1 : w1.cell? ⟨w.heap.size, 1, none⟩ = some (.int .i64 span) := by simp [World.cell?, hQ]
    have g2 : w1.cell? ⟨w.heap.size, 2, none⟩ = some (.int .i64 wd) := by simp [World.cell?, hQ]
    have g3 : w1.cell? ⟨w.heap.size, 3, none⟩ = some (.int .i64 dp) := by simp [World.cell?, hQ]
    have g4 : w1.cell? ⟨w.heap.size, 4, none⟩ = some (.int .i64 wood) := by simp [World.cell?, hQ]
    have g5 : w1.cell? ⟨w.heap.size, 5, none⟩ = some (.slice (some ⟨ba, oa, none⟩) ls.length c) := by simp [World.cell?, hQ]
    have l0 : w1.cell? ⟨w.heap.size + 1, 0, none⟩ = some (.int .i64 a) := by simp [World.cell?, hL]
    have l1 : w1.cell? ⟨w.heap.size + 1, 1, none⟩ = some (.int .i64 t) := by simp [World.cell?, hL]
    have r0 : w1.cell? ⟨w.heap.size + 2, 0, none⟩ = some (.string ⟨#[]⟩) := by {simp [World.cell?, hR]}
    have y0 : w1.frozen? ⟨w.heap.size + 2, 0, none⟩ = false := by {simp [World.frozen?, hR]}
    have r1 : w1.cell? ⟨w.heap.size + 2, 1, none⟩ = some (.int .i64 0) := by {simp [World.cell?, hR]}
    have y1 : w1.frozen? ⟨w.heap.size + 2, 1, none⟩ = false := by {simp [World.frozen?, hR]}
    have r2 : w1.cell? ⟨w.heap.size + 2, 2, none⟩ = some (.int .i64 0) := by {simp [World.cell?, hR]}
    have y2 : w1.frozen? ⟨w.heap.size + 2, 2, none⟩ = false := by {simp [World.frozen?, hR]}
    have r3 : w1.cell? ⟨w.heap.size + 2, 3, none⟩ = some (.int .i64 0) := by {simp [World.cell?, hR]}
    have y3 : w1.frozen? ⟨w.heap.size + 2, 3, none⟩ = false := by {simp [World.frozen?, hR]}
    have r4 : w1.cell? ⟨w.heap.size + 2, 4, none⟩ = some (.int .i64 0) := by {simp [World.cell?, hR]}
    have y4 : w1.frozen? ⟨w.heap.size + 2, 4, none⟩ = false := by {simp [World.frozen?, hR]}
    have r5 : w1.cell? ⟨w.heap.size + 2, 5, none⟩ = some (.slice none 0 0) := by {simp [World.cell?, hR]}
    have y5 : w1.frozen? ⟨w.heap.size + 2, 5, none⟩ = false := by {simp [World.frozen?, hR]}
    have zq1 : w.heap.size < w1.heap.size := by omega
    have zl1 : w.heap.size + 1 < w1.heap.size := by omega
    have zr1 : w.heap.size + 2 < w1.heap.size := by omega
    clear hQ hL hR
    go_wp2_with fail
    refine (specl21Load w.heap.size (w.heap.size + 1) 0 span a t w1 g1 l0 l1).mono ?_
    rintro e w2 ⟨rfl, n2, rfl⟩
    have hb2 : Below w1.heap.size w1 (w1.drewN n2) := (by repeat (first | with_reducible exact Below.refl _ _ | with_reducible assumption | (with_reducible refine Below.drew ?_) | (with_reducible refine below_drewN ?_ _) | ((with_reducible refine Below.alloc ?_ ?_ _); rotate_left; (focus (first | omega | (simp; omega) | simp))) | ((with_reducible refine Below.setCell ?_ ?_ _); rotate_left; (focus (first | omega | (simp; omega) | simp))) | (refine Below.trans ?_ (Below.mono (by assumption) (by first | omega | (simp; omega) | simp)))))
    generalize w1.drewN n2 = w2 at *
    have B2 := hide (B1.out.trans (hb2.mono (by omega)))
    clear hb2
    clear g0 g1 g2 g3 g4 g5 l0 l1 r0 r1 r2 r3 r4 r5 y0 y1 y2 y3 y4 y5 hBW hzW
    cases hl : ldOk span a t
    · have e := hide (addR_2 hv hl)
      obtain ⟨hQ, hL, hR, hBW, hzW⟩ := HBK.out _ B2.out
      have g0 : w2.cell? ⟨w.heap.size, 0, none⟩ = some (.string nm) := by simp [World.cell?, hQ]
      have g1 : w2.cell? ⟨w.heap.size, 1, none⟩ = some (.int .i64 span) := by simp [World.cell?, hQ]
      have g2 : w2.cell? ⟨w.heap.size, 2, none⟩ = some (.int .i64 wd) := by simp [World.cell?, hQ]
      have g3 : w2.cell? ⟨w.heap.size, 3, none⟩ = some (.int .i64 dp) := by simp [World.cell?, hQ]
      have g4 : w2.cell? ⟨w.heap.size, 4, none⟩ = some (.int .i64 wood) := by simp [World.cell?, hQ]
      have g5 : w2.cell? ⟨w.heap.size, 5, none⟩ = some (.slice (some ⟨ba, oa, none⟩) ls.length c) := by simp [World.cell?, hQ]
      have l0 : w2.cell? ⟨w.heap.size + 1, 0, none⟩ = some (.int .i64 a) := by simp [World.cell?, hL]
      have l1 : w2.cell? ⟨w.heap.size + 1, 1, none⟩ = some (.int .i64 t) := by simp [World.cell?, hL]
      have r0 : w2.cell? ⟨w.heap.size + 2, 0, none⟩ = some (.string ⟨#[]⟩) := by {simp [World.cell?, hR]}
      have y0 : w2.frozen? ⟨w.heap.size + 2, 0, none⟩ = false := by {simp [World.frozen?, hR]}
      have r1 : w2.cell? ⟨w.heap.size + 2, 1, none⟩ = some (.int .i64 0) := by {simp [World.cell?, hR]}
      have y1 : w2.frozen? ⟨w.heap.size + 2, 1, none⟩ = false := by {simp [World.frozen?, hR]}
      have r2 : w2.cell? ⟨w.heap.size + 2, 2, none⟩ = some (.int .i64 0) := by {simp [World.cell?, hR]}
      have y2 : w2.frozen? ⟨w.heap.size + 2, 2, none⟩ = false := by {simp [World.frozen?, hR]}
      have r3 : w2.cell? ⟨w.heap.size + 2, 3, none⟩ = some (.int .i64 0) := by {simp [World.cell?, hR]}
      have y3 : w2.frozen? ⟨w.heap.size + 2, 3, none⟩ = false := by {simp [World.frozen?, hR]}
      have r4 : w2.cell? ⟨w.heap.size + 2, 4, none⟩ = some (.int .i64 0) := by {simp [World.cell?, hR]}
      have y4 : w2.frozen? ⟨w.heap.size + 2, 4, none⟩ = false := by {simp [World.frozen?, hR]}
      have r5 : w2.cell? ⟨w.heap.size + 2, 5, none⟩ = some (.slice none 0 0) := by {simp [World.cell?, hR]}
      have y5 : w2.frozen? ⟨w.heap.size + 2, 5, none⟩ = false := by {simp [World.frozen?, hR]}
      have zq2 : w.heap.size < w2.heap.size := by omega
      have zl2 : w.heap.size + 1 < w2.heap.size := by omega
      have zr2 : w.heap.size + 2 < w2.heap.size := by omega
      clear hQ hL hR
      go_wp2_with fail
      refine bodyPost_ret (v := .tuple #[.agg #[.string ⟨#[]⟩, .int .i64 0, .int .i64 0, .int .i64 0, .int .i64 0, .slice none 0 0], .int .i64 2]) (by simp [results, Try.results9, go_sem, r0, r1, r2, r3, r4, r5]) rfl ?_
      exact bmRes_nil e.out (by repeat (first | with_reducible exact Below.refl _ _ | with_reducible assumption | (with_reducible refine Below.drew ?_) | (with_reducible refine below_drewN ?_ _) | ((with_reducible refine Below.alloc ?_ ?_ _); rotate_left; (focus (first | omega | (simp; omega) | simp))) | ((with_reducible refine Below.setCell ?_ ?_ _); rotate_left; (focus (first | omega | (simp; omega) | simp))) | (refine Below.trans ?_ (Below.mono (by assumption) (by first | omega | (simp; omega) | simp)))))
    by_cases h8 : 8 ≤ ls.length
    · have e := hide (addR_3 hv hl h8)
      obtain ⟨hQ, hL, hR, hBW, hzW⟩ := HBK.out _ B2.out
      have g0 : w2.cell? ⟨w.heap.size, 0, none⟩ = some (.string nm) := by simp [World.cell?, hQ]
      have g1 : w2.cell? ⟨w.heap.size, 1, none⟩ = some (.int .i64 span) := by simp [World.cell?, hQ]
      have g2 : w2.cell? ⟨w.heap.size, 2, none⟩ = some (.int .i64 wd) := by simp [World.cell?, hQ]
      have g3 : w2.cell? ⟨w.heap.size, 3, none⟩ = some (.int .i64 dp) := by simp [World.cell?, hQ]
      have g4 : w2.cell? ⟨w.heap.size, 4, none⟩ = some (.int .i64 wood) := by simp [World.cell?, hQ]
      have g5 : w2.cell? ⟨w.heap.size, 5, none⟩ = some (.slice (some ⟨ba, oa, none⟩) ls.length c) := by simp [World.cell?, hQ]
      have l0 : w2.cell? ⟨w.heap.size + 1, 0, none⟩ = some (.int .i64 a) := by simp [World.cell?, hL]
      have l1 : w2.cell? ⟨w.heap.size + 1, 1, none⟩ = some (.int .i64 t) := by simp [World.cell?, hL]
      have r0 : w2.cell? ⟨w.heap.size + 2, 0, none⟩ = some (.string ⟨#[]⟩) := by {simp [World.cell?, hR]}
      have y0 : w2.frozen? ⟨w.heap.size + 2, 0, none⟩ = false := by {simp [World.frozen?, hR]}
      have r1 : w2.cell? ⟨w.heap.size + 2, 1, none⟩ = some (.int .i64 0) := by {simp [World.cell?, hR]}
      have y1 : w2.frozen? ⟨w.heap.size + 2, 1, none⟩ = false := by {simp [World.frozen?, hR]}
      have r2 : w2.cell? ⟨w.heap.size + 2, 2, none⟩ = some (.int .i64 0) := by {simp [World.cell?, hR]}
      have y2 : w2.frozen? ⟨w.heap.size + 2, 2, none⟩ = false := by {simp [World.frozen?, hR]}
      have r3 : w2.cell? ⟨w.heap.size + 2, 3, none⟩ = some (.int .i64 0) := by {simp [World.cell?, hR]}
      have y3 : w2.frozen? ⟨w.heap.size + 2, 3, none⟩ = false := by {simp [World.frozen?, hR]}
      have r4 : w2.cell? ⟨w.heap.size + 2, 4, none⟩ = some (.int .i64 0) := by {simp [World.cell?, hR]}
      have y4 : w2.frozen? ⟨w.heap.size + 2, 4, none⟩ = false := by {simp [World.frozen?, hR]}
      have r5 : w2.cell? ⟨w.heap.size + 2, 5, none⟩ = some (.slice none 0 0) := by {simp [World.cell?, hR]}
      have y5 : w2.frozen? ⟨w.heap.size + 2, 5, none⟩ = false := by {simp [World.frozen?, hR]}
      have zq2 : w.heap.size < w2.heap.size := by omega
      have zl2 : w.heap.size + 1 < w2.heap.size := by omega
      have zr2 : w.heap.size + 2 < w2.heap.size := by omega
      clear hQ hL hR
      have h88 := (vBeam_true hv).2.2.2.2.2.2.1
      have d8 : (ls.length == 8) = true := by simp; omega
      have d9 : ((ls.length : Int) == 8) = true := by simp; omega
      clear h8 h88
      go_wp2_with fail
      refine bodyPost_ret (v := .tuple #[.agg #[.string ⟨#[]⟩, .int .i64 0, .int .i64 0, .int .i64 0, .int .i64 0, .slice none 0 0], .int .i64 5]) (by simp [results, Try.results9, go_sem, r0, r1, r2, r3, r4, r5]) rfl ?_
      exact bmRes_nil e.out (by repeat (first | with_reducible exact Below.refl _ _ | with_reducible assumption | (with_reducible refine Below.drew ?_) | (with_reducible refine below_drewN ?_ _) | ((with_reducible refine Below.alloc ?_ ?_ _); rotate_left; (focus (first | omega | (simp; omega) | simp))) | ((with_reducible refine Below.setCell ?_ ?_ _); rotate_left; (focus (first | omega | (simp; omega) | simp))) | (refine Below.trans ?_ (Below.mono (by assumption) (by first | omega | (simp; omega) | simp)))))
    · have e := hide (addR_4 hv hl h8)
      have d8 : (ls.length == 8) = false := by simp; omega
      have d9 : ((ls.length : Int) == 8) = false := by simp; omega
      have HRI := hide (fun (d i : Nat) (hj : i + d < ls.length) => rising_L ((vBeam_true hv).2.2.2.2.2.2.2) d i hj)
      obtain ⟨hQ, hL, hR, hBW, hzW⟩ := HBK.out _ B2.out
      have g0 : w2.cell? ⟨w.heap.size, 0, none⟩ = some (.string nm) := by simp [World.cell?, hQ]
      have g1 : w2.cell? ⟨w.heap.size, 1, none⟩ = some (.int .i64 span) := by simp [World.cell?, hQ]
      have g2 : w2.cell? ⟨w.heap.size, 2, none⟩ = some (.int .i64 wd) := by simp [World.cell?, hQ]
      have g3 : w2.cell? ⟨w.heap.size, 3, none⟩ = some (.int .i64 dp) := by simp [World.cell?, hQ]
      have g4 : w2.cell? ⟨w.heap.size, 4, none⟩ = some (.int .i64 wood) := by simp [World.cell?, hQ]
      have g5 : w2.cell? ⟨w.heap.size, 5, none⟩ = some (.slice (some ⟨ba, oa, none⟩) ls.length c) := by simp [World.cell?, hQ]
      have l0 : w2.cell? ⟨w.heap.size + 1, 0, none⟩ = some (.int .i64 a) := by simp [World.cell?, hL]
      have l1 : w2.cell? ⟨w.heap.size + 1, 1, none⟩ = some (.int .i64 t) := by simp [World.cell?, hL]
      have r0 : w2.cell? ⟨w.heap.size + 2, 0, none⟩ = some (.string ⟨#[]⟩) := by {simp [World.cell?, hR]}
      have y0 : w2.frozen? ⟨w.heap.size + 2, 0, none⟩ = false := by {simp [World.frozen?, hR]}
      have r1 : w2.cell? ⟨w.heap.size + 2, 1, none⟩ = some (.int .i64 0) := by {simp [World.cell?, hR]}
      have y1 : w2.frozen? ⟨w.heap.size + 2, 1, none⟩ = false := by {simp [World.frozen?, hR]}
      have r2 : w2.cell? ⟨w.heap.size + 2, 2, none⟩ = some (.int .i64 0) := by {simp [World.cell?, hR]}
      have y2 : w2.frozen? ⟨w.heap.size + 2, 2, none⟩ = false := by {simp [World.frozen?, hR]}
      have r3 : w2.cell? ⟨w.heap.size + 2, 3, none⟩ = some (.int .i64 0) := by {simp [World.cell?, hR]}
      have y3 : w2.frozen? ⟨w.heap.size + 2, 3, none⟩ = false := by {simp [World.frozen?, hR]}
      have r4 : w2.cell? ⟨w.heap.size + 2, 4, none⟩ = some (.int .i64 0) := by {simp [World.cell?, hR]}
      have y4 : w2.frozen? ⟨w.heap.size + 2, 4, none⟩ = false := by {simp [World.frozen?, hR]}
      have r5 : w2.cell? ⟨w.heap.size + 2, 5, none⟩ = some (.slice none 0 0) := by {simp [World.cell?, hR]}
      have y5 : w2.frozen? ⟨w.heap.size + 2, 5, none⟩ = false := by {simp [World.frozen?, hR]}
      have zq2 : w.heap.size < w2.heap.size := by omega
      have zl2 : w.heap.size + 1 < w2.heap.size := by omega
      have zr2 : w.heap.size + 2 < w2.heap.size := by omega
      clear hQ hL hR
      go_wp2_with fail
      refine (specl21Own nm span wd dp wood w.heap.size ba oa c ls w2 (HXW.out _ B2.out) (by omega) g0 g1 g2 g3 g4 g5).mono ?_
      rintro e6 w6 ⟨A6, c6, rfl, ho6, hb6⟩
      clear g0 g1 g2 g3 g4 g5 l0 l1 r0 r1 r2 r3 r4 r5 y0 y1 y2 y3 y4 y5 hBW hzW
      clear d8 d9
      have B6 := hide (B2.out.trans (hb6.mono (by omega)))
      have hz6 := hb6.size
      clear hb6
      have hoo := own_some_L ho6
      have HOW := hide (fun (W : World) (h : Below w6.heap.size w6 W) => Own.below ho6 h)
      have HOLT := hide (fun g q => ho6.lt g q)
      clear ho6
      have HK7 := hide (fun (W : World) (h : Below (w6.heap.size + 1) (w6.alloc (.cells #[.string nm, .int .i64 span, .int .i64 wd, .int .i64 dp, .int .i64 wood, .slice A6 ls.length c6] 30)) W) => (show W.heap[w6.heap.size]? = some (.cells #[.string nm, .int .i64 span, .int .i64 wd, .int .i64 dp, .int .i64 wood, .slice A6 ls.length c6] 30 (0, 0)) ∧ W.heap[w.heap.size + 1]? = some (.cells #[.int .i64 a, .int .i64 t] 34 (0, 0)) ∧ W.heap[w.heap.size + 2]? = some (.cells #[.string ⟨#[]⟩, .int .i64 0, .int .i64 0, .int .i64 0, .int .i64 0, .slice none 0 0] 30 (0, 0)) ∧ Below w6.heap.size w6 W ∧ w6.heap.size + 1 ≤ W.heap.size from by
        obtain ⟨hQ, hL, hR, _, hz⟩ := HBK.out _ B6.out
        have z7 : (w6.alloc (.cells #[.string nm, .int .i64 span, .int .i64 wd, .int .i64 dp, .int .i64 wood, .slice A6 ls.length c6] 30)).heap.size = w6.heap.size + 1 := by simp
        refine ⟨(h.block _ (by omega)).trans (heap_alloc_new w6 _), (h.block _ (by omega)).trans ((heap_alloc_old _ _ (by omega)).trans hL), (h.block _ (by omega)).trans ((heap_alloc_old _ _ (by omega)).trans hR), ((Below.refl _ _).alloc (Nat.le_refl _) _).trans (h.mono (by omega)), by have := h.size; omega⟩))
      have hz26 : w.heap.size + 3 ≤ w2.heap.size := (HBK.out _ B2.out).2.2.2.2
      have B7 := hide (show Below (w6.heap.size + 1) (w6.alloc (.cells #[.string nm, .int .i64 span, .int .i64 wd, .int .i64 dp, .int .i64 wood, .slice A6 ls.length c6] 30)) (w6.alloc (.cells #[.string nm, .int .i64 span, .int .i64 wd, .int .i64 dp, .int .i64 wood, .slice A6 ls.length c6] 30)) from Below.refl _ _)
      have hz7 : (w6.alloc (.cells #[.string nm, .int .i64 span, .int .i64 wd, .int .i64 dp, .int .i64 wood, .slice A6 ls.length c6] 30)).heap.size = w6.heap.size + 1 := by simp
      go_upto_region 8 with fail
      generalize hw7 : w6.alloc (.cells #[.string nm, .int .i64 span, .int .i64 wd, .int .i64 dp, .int .i64 wood, .slice A6 ls.length c6] 30) = w7 at *
      clear hw7
      rcases hoo with ⟨rfl, rfl, hl0⟩ | ⟨g6, rfl, hgc, hgm⟩
      · have hnil := List.length_eq_zero_iff.1 hl0
        subst hnil
        obtain ⟨hO, hL, hR, hBW, hzW⟩ := HK7.out _ B7.out
        have o0 : w7.cell? ⟨w6.heap.size, 0, none⟩ = some (.string nm) := by {simp [World.cell?, hO]}
        have o1 : w7.cell? ⟨w6.heap.size, 1, none⟩ = some (.int .i64 span) := by {simp [World.cell?, hO]}
        have o2 : w7.cell? ⟨w6.heap.size, 2, none⟩ = some (.int .i64 wd) := by {simp [World.cell?, hO]}
        have o3 : w7.cell? ⟨w6.heap.size, 3, none⟩ = some (.int .i64 dp) := by {simp [World.cell?, hO]}
        have o4 : w7.cell? ⟨w6.heap.size, 4, none⟩ = some (.int .i64 wood) := by {simp [World.cell?, hO]}
        have o5 : w7.cell? ⟨w6.heap.size, 5, none⟩ = some (.slice none ([] : List LoadR).length 0) := by {simp [World.cell?, hO]}
        have v5 : w7.frozen? ⟨w6.heap.size, 5, none⟩ = false := by {simp [World.frozen?, hO]}
        have l0 : w7.cell? ⟨w.heap.size + 1, 0, none⟩ = some (.int .i64 a) := by simp [World.cell?, hL]
        have l1 : w7.cell? ⟨w.heap.size + 1, 1, none⟩ = some (.int .i64 t) := by simp [World.cell?, hL]
        have r0 : w7.cell? ⟨w.heap.size + 2, 0, none⟩ = some (.string ⟨#[]⟩) := by {simp [World.cell?, hR]}
        have y0 : w7.frozen? ⟨w.heap.size + 2, 0, none⟩ = false := by {simp [World.frozen?, hR]}
        have r1 : w7.cell? ⟨w.heap.size + 2, 1, none⟩ = some (.int .i64 0) := by {simp [World.cell?, hR]}
        have y1 : w7.frozen? ⟨w.heap.size + 2, 1, none⟩ = false := by {simp [World.frozen?, hR]}
        have r2 : w7.cell? ⟨w.heap.size + 2, 2, none⟩ = some (.int .i64 0) := by {simp [World.cell?, hR]}
        have y2 : w7.frozen? ⟨w.heap.size + 2, 2, none⟩ = false := by {simp [World.frozen?, hR]}
        have r3 : w7.cell? ⟨w.heap.size + 2, 3, none⟩ = some (.int .i64 0) := by {simp [World.cell?, hR]}
        have y3 : w7.frozen? ⟨w.heap.size + 2, 3, none⟩ = false := by {simp [World.frozen?, hR]}
        have r4 : w7.cell? ⟨w.heap.size + 2, 4, none⟩ = some (.int .i64 0) := by {simp [World.cell?, hR]}
        have y4 : w7.frozen? ⟨w.heap.size + 2, 4, none⟩ = false := by {simp [World.frozen?, hR]}
        have r5 : w7.cell? ⟨w.heap.size + 2, 5, none⟩ = some (.slice none 0 0) := by {simp [World.cell?, hR]}
        have y5 : w7.frozen? ⟨w.heap.size + 2, 5, none⟩ = false := by {simp [World.frozen?, hR]}
        have zq7 : w.heap.size < w7.heap.size := by omega
        have zl7 : w.heap.size + 1 < w7.heap.size := by omega
        have zr7 : w.heap.size + 2 < w7.heap.size := by omega
        have zo7 : w6.heap.size < w7.heap.size := by omega
        clear hO hL hR
        go_wp2_with fail
        clear o0 o1 o2 o3 o4 o5 v5 l0 l1 r0 r1 r2 r3 r4 r5 y0 y1 y2 y3 y4 y5 hBW hzW
        go_loopw [7] (fun v wr => ∃ p : Nat, v = .int .i64 p ∧ p ≤ ([] : List LoadR).length ∧ Hid (∀ j (hj : j < ([] : List LoadR).length), p ≤ j → a < ([] : List LoadR)[j].at_) ∧ Hid (Below (w6.heap.size + 1) w7 wr)) (fun v _ => (intOf v).toNat)
        case atStart => exact ⟨([] : List LoadR).length, rfl, Nat.le_refl _, hide (fun j hj h => by omega), B7⟩
        case round =>
          obtain ⟨p, rfl, hp, HJ, HB⟩ := hrel
          obtain ⟨hO, hL, hR, hBW, hzW⟩ := HK7.out _ HB.out
          have o0 : wr.cell? ⟨w6.heap.size, 0, none⟩ = some (.string nm) := by {simp [World.cell?, hO]}
          have o1 : wr.cell? ⟨w6.heap.size, 1, none⟩ = some (.int .i64 span) := by {simp [World.cell?, hO]}
          have o2 : wr.cell? ⟨w6.heap.size, 2, none⟩ = some (.int .i64 wd) := by {simp [World.cell?, hO]}
          have o3 : wr.cell? ⟨w6.heap.size, 3, none⟩ = some (.int .i64 dp) := by {simp [World.cell?, hO]}
          have o4 : wr.cell? ⟨w6.heap.size, 4, none⟩ = some (.int .i64 wood) := by {simp [World.cell?, hO]}
          have o5 : wr.cell? ⟨w6.heap.size, 5, none⟩ = some (.slice none ([] : List LoadR).length 0) := by {simp [World.cell?, hO]}
          have v5 : wr.frozen? ⟨w6.heap.size, 5, none⟩ = false := by {simp [World.frozen?, hO]}
          have l0 : wr.cell? ⟨w.heap.size + 1, 0, none⟩ = some (.int .i64 a) := by simp [World.cell?, hL]
          have l1 : wr.cell? ⟨w.heap.size + 1, 1, none⟩ = some (.int .i64 t) := by simp [World.cell?, hL]
          have r0 : wr.cell? ⟨w.heap.size + 2, 0, none⟩ = some (.string ⟨#[]⟩) := by {simp [World.cell?, hR]}
          have y0 : wr.frozen? ⟨w.heap.size + 2, 0, none⟩ = false := by {simp [World.frozen?, hR]}
          have r1 : wr.cell? ⟨w.heap.size + 2, 1, none⟩ = some (.int .i64 0) := by {simp [World.cell?, hR]}
          have y1 : wr.frozen? ⟨w.heap.size + 2, 1, none⟩ = false := by {simp [World.frozen?, hR]}
          have r2 : wr.cell? ⟨w.heap.size + 2, 2, none⟩ = some (.int .i64 0) := by {simp [World.cell?, hR]}
          have y2 : wr.frozen? ⟨w.heap.size + 2, 2, none⟩ = false := by {simp [World.frozen?, hR]}
          have r3 : wr.cell? ⟨w.heap.size + 2, 3, none⟩ = some (.int .i64 0) := by {simp [World.cell?, hR]}
          have y3 : wr.frozen? ⟨w.heap.size + 2, 3, none⟩ = false := by {simp [World.frozen?, hR]}
          have r4 : wr.cell? ⟨w.heap.size + 2, 4, none⟩ = some (.int .i64 0) := by {simp [World.cell?, hR]}
          have y4 : wr.frozen? ⟨w.heap.size + 2, 4, none⟩ = false := by {simp [World.frozen?, hR]}
          have r5 : wr.cell? ⟨w.heap.size + 2, 5, none⟩ = some (.slice none 0 0) := by {simp [World.cell?, hR]}
          have y5 : wr.frozen? ⟨w.heap.size + 2, 5, none⟩ = false := by {simp [World.frozen?, hR]}
          have zqr : w.heap.size < wr.heap.size := by omega
          have zlr : w.heap.size + 1 < wr.heap.size := by omega
          have zrr : w.heap.size + 2 < wr.heap.size := by omega
          have zor : w6.heap.size < wr.heap.size := by omega
          clear hO hL hR
          obtain rfl : p = 0 := by simp at hp; exact hp
          have HEN := (fun j (hj : j < ([] : List LoadR).length) (h : j < 0) => (show ([] : List LoadR)[j].at_ ≤ a from absurd h (by omega)))
          go_wp2_with fail
          refine wp_region_kept (by kernel_rfl) (by kernel_rfl) ?_
          intro gc gf gz
          repeat (go_big_quiet_step (fail))
          refine wpQuiet_nil ?_
          intro w5 hw'
          obtain ⟨⟨_, hb5⟩, rfl⟩ := hw'
          clear gc gf gz
          try dsimp only
          have fs5 := hb5.size
          try simp at fs5 hb5
          have BT := hide (HB.out.trans (hb5.mono (by omega)))
          clear hb5
          clear o0 o1 o2 o3 o4 o5 v5 l0 l1 r0 r1 r2 r3 r4 r5 y0 y1 y2 y3 y4 y5 hBW hzW
          have hpo := posL_at (a := a) (k := 0) hp HEN (fun h => HJ.out _ h (Nat.le_refl _))
          have HE2 := hide (show addR nm span wd dp wood ([] : List LoadR) a t = ((nm, span, wd, dp, wood), insL ([] : List LoadR) 0 ⟨a, t⟩, 0) from by rw [e.out, hpo])
          clear hpo HEN
          obtain ⟨hO, hL, hR, hBW, hzW⟩ := HK7.out _ BT.out
          have o0 : w5.cell? ⟨w6.heap.size, 0, none⟩ = some (.string nm) := by {simp [World.cell?, hO]}
          have o1 : w5.cell? ⟨w6.heap.size, 1, none⟩ = some (.int .i64 span) := by {simp [World.cell?, hO]}
          have o2 : w5.cell? ⟨w6.heap.size, 2, none⟩ = some (.int .i64 wd) := by {simp [World.cell?, hO]}
          have o3 : w5.cell? ⟨w6.heap.size, 3, none⟩ = some (.int .i64 dp) := by {simp [World.cell?, hO]}
          have o4 : w5.cell? ⟨w6.heap.size, 4, none⟩ = some (.int .i64 wood) := by {simp [World.cell?, hO]}
          have o5 : w5.cell? ⟨w6.heap.size, 5, none⟩ = some (.slice none ([] : List LoadR).length 0) := by {simp [World.cell?, hO]}
          have v5 : w5.frozen? ⟨w6.heap.size, 5, none⟩ = false := by {simp [World.frozen?, hO]}
          have l0 : w5.cell? ⟨w.heap.size + 1, 0, none⟩ = some (.int .i64 a) := by simp [World.cell?, hL]
          have l1 : w5.cell? ⟨w.heap.size + 1, 1, none⟩ = some (.int .i64 t) := by simp [World.cell?, hL]
          have r0 : w5.cell? ⟨w.heap.size + 2, 0, none⟩ = some (.string ⟨#[]⟩) := by {simp [World.cell?, hR]}
          have y0 : w5.frozen? ⟨w.heap.size + 2, 0, none⟩ = false := by {simp [World.frozen?, hR]}
          have r1 : w5.cell? ⟨w.heap.size + 2, 1, none⟩ = some (.int .i64 0) := by {simp [World.cell?, hR]}
          have y1 : w5.frozen? ⟨w.heap.size + 2, 1, none⟩ = false := by {simp [World.frozen?, hR]}
          have r2 : w5.cell? ⟨w.heap.size + 2, 2, none⟩ = some (.int .i64 0) := by {simp [World.cell?, hR]}
          have y2 : w5.frozen? ⟨w.heap.size + 2, 2, none⟩ = false := by {simp [World.frozen?, hR]}
          have r3 : w5.cell? ⟨w.heap.size + 2, 3, none⟩ = some (.int .i64 0) := by {simp [World.cell?, hR]}
          have y3 : w5.frozen? ⟨w.heap.size + 2, 3, none⟩ = false := by {simp [World.frozen?, hR]}
          have r4 : w5.cell? ⟨w.heap.size + 2, 4, none⟩ = some (.int .i64 0) := by {simp [World.cell?, hR]}
          have y4 : w5.frozen? ⟨w.heap.size + 2, 4, none⟩ = false := by {simp [World.frozen?, hR]}
          have r5 : w5.cell? ⟨w.heap.size + 2, 5, none⟩ = some (.slice none 0 0) := by {simp [World.cell?, hR]}
          have y5 : w5.frozen? ⟨w.heap.size + 2, 5, none⟩ = false := by {simp [World.frozen?, hR]}
          have zq5 : w.heap.size < w5.heap.size := by omega
          have zl5 : w.heap.size + 1 < w5.heap.size := by omega
          have zr5 : w.heap.size + 2 < w5.heap.size := by omega
          have zo5 : w6.heap.size < w5.heap.size := by omega
          clear hO hL hR
          have hzT : w6.heap.size + 1 ≤ w5.heap.size := hzW
          have hz9 : (w5.alloc (.cells #[] 34)).heap.size = w5.heap.size + 1 := by simp
          have HM := hide (show OwnL (w5.alloc (.cells #[] 34)) w5.heap.size (.slice (some ⟨w5.heap.size, 0, none⟩) 0 0) [] from own_made _ rfl (Nat.le_refl _))
          have hB9 := (show Below w5.heap.size w5 (w5.alloc (.cells #[] 34)) from (Below.refl _ _).alloc (Nat.le_refl _) _)
          have HB9 := hide hB9
          clear hB9
          have htl : (([] : List LoadR).take 0).length = 0 := by rw [List.length_take]; omega
          have hdl : (([] : List LoadR).drop 0).length = ([] : List LoadR).length - 0 := by rw [List.length_drop]
          have HTL := hide htl
          have HDL := hide hdl
          have hl0 : ([] : List LoadR).length + (([] : List LoadR).take 0).length = 0 := by rw [htl]; simp
          have HL0 := hide hl0
          clear htl hdl hl0
          have HBT := hide (fun (W' : World) (h : Below w5.heap.size w5 W') => BT.out.trans (h.mono hzT))
          clear hz9
          go_upto_region 12 with fail
          have B10 := HB9
          have HO10 := hide (show OwnL (w5.alloc (.cells #[] 34)) w5.heap.size (.slice (some ⟨w5.heap.size, 0, none⟩) 0 0) (([] : List LoadR).take 0) from HM.out)
          generalize hw10 : w5.alloc (.cells #[] 34) = w10 at *
          clear hw10
          clear o0 o1 o2 o3 o4 o5 v5 l0 l1 r0 r1 r2 r3 r4 r5 y0 y1 y2 y3 y4 y5 hBW hzW
          obtain ⟨hO, hL, hR, hBW, hzW⟩ := HK7.out _ (HBT.out _ B10.out)
          have o0 : w10.cell? ⟨w6.heap.size, 0, none⟩ = some (.string nm) := by {simp [World.cell?, hO]}
          have o1 : w10.cell? ⟨w6.heap.size, 1, none⟩ = some (.int .i64 span) := by {simp [World.cell?, hO]}
          have o2 : w10.cell? ⟨w6.heap.size, 2, none⟩ = some (.int .i64 wd) := by {simp [World.cell?, hO]}
          have o3 : w10.cell? ⟨w6.heap.size, 3, none⟩ = some (.int .i64 dp) := by {simp [World.cell?, hO]}
          have o4 : w10.cell? ⟨w6.heap.size, 4, none⟩ = some (.int .i64 wood) := by {simp [World.cell?, hO]}
          have o5 : w10.cell? ⟨w6.heap.size, 5, none⟩ = some (.slice none ([] : List LoadR).length 0) := by {simp [World.cell?, hO]}
          have v5 : w10.frozen? ⟨w6.heap.size, 5, none⟩ = false := by {simp [World.frozen?, hO]}
          have l0 : w10.cell? ⟨w.heap.size + 1, 0, none⟩ = some (.int .i64 a) := by simp [World.cell?, hL]
          have l1 : w10.cell? ⟨w.heap.size + 1, 1, none⟩ = some (.int .i64 t) := by simp [World.cell?, hL]
          have r0 : w10.cell? ⟨w.heap.size + 2, 0, none⟩ = some (.string ⟨#[]⟩) := by {simp [World.cell?, hR]}
          have y0 : w10.frozen? ⟨w.heap.size + 2, 0, none⟩ = false := by {simp [World.frozen?, hR]}
          have r1 : w10.cell? ⟨w.heap.size + 2, 1, none⟩ = some (.int .i64 0) := by {simp [World.cell?, hR]}
          have y1 : w10.frozen? ⟨w.heap.size + 2, 1, none⟩ = false := by {simp [World.frozen?, hR]}
          have r2 : w10.cell? ⟨w.heap.size + 2, 2, none⟩ = some (.int .i64 0) := by {simp [World.cell?, hR]}
          have y2 : w10.frozen? ⟨w.heap.size + 2, 2, none⟩ = false := by {simp [World.frozen?, hR]}
          have r3 : w10.cell? ⟨w.heap.size + 2, 3, none⟩ = some (.int .i64 0) := by {simp [World.cell?, hR]}
          have y3 : w10.frozen? ⟨w.heap.size + 2, 3, none⟩ = false := by {simp [World.frozen?, hR]}
          have r4 : w10.cell? ⟨w.heap.size + 2, 4, none⟩ = some (.int .i64 0) := by {simp [World.cell?, hR]}
          have y4 : w10.frozen? ⟨w.heap.size + 2, 4, none⟩ = false := by {simp [World.frozen?, hR]}
          have r5 : w10.cell? ⟨w.heap.size + 2, 5, none⟩ = some (.slice none 0 0) := by {simp [World.cell?, hR]}
          have y5 : w10.frozen? ⟨w.heap.size + 2, 5, none⟩ = false := by {simp [World.frozen?, hR]}
          have zq10 : w.heap.size < w10.heap.size := by omega
          have zl10 : w.heap.size + 1 < w10.heap.size := by omega
          have zr10 : w.heap.size + 2 < w10.heap.size := by omega
          have zo10 : w6.heap.size < w10.heap.size := by omega
          clear hO hL hR
          have hz10 := B10.out.size
          have HO11 := hide (show OwnL (w10.alloc (.cells #[.int .i64 a, .int .i64 t] 34)) w5.heap.size (.slice (some ⟨w5.heap.size, 0, none⟩) 0 0) (([] : List LoadR).take 0) from HO10.out.below ((Below.refl _ _).alloc (Nat.le_refl _) _))
          have HB11 := hide (B10.out.alloc hz10 (.cells #[.int .i64 a, .int .i64 t] 34))
          have hv11 : (w10.alloc (.cells #[.int .i64 a, .int .i64 t] 34)).heap[w10.heap.size]? = some (.cells (encLoad ⟨a, t⟩).toArray 34 (0, 0)) := heap_alloc_new w10 _
          have HV11 := hide (show ∀ (j : Nat) (u : Value), (encLoad ⟨a, t⟩)[j]? = some u → (w10.alloc (.cells #[.int .i64 a, .int .i64 t] 34)).cell? ((⟨w10.heap.size, 0, none⟩ : Addr).add j) = some u from fun j u hj => by rw [Addr.add_lit, Nat.zero_add]; simp only [World.cell?, hv11]; simpa using hj)
          clear hv11
          obtain ⟨i0, hi0, hz0', hzs, hzb⟩ := info_parts info_LdA
          have HL1 := hide (show (([] : List LoadR).take 0).length + 1 = 0 + 1 by rw [HTL.out])
          go_upto_region 13 with (at_builtin; go_loud (refine wpList_app (sz := 2) (bytes := 16) Try.underlying28 hi0 hz0' hzs hzb rfl (by omega) (by omega) (fun _ => rfl) rfl _ _ rfl w5.heap.size rfl HO11.out ⟨a, t⟩ (encL_one _) rfl HV11.out (by rw [HTL.out]; omega) (by simp; omega) ?_; intro A12 c12 w12 ho12 hb12 _hg12; rw [HL1.out] at ho12 ⊢))
          have B12 := hide (HB11.out.trans hb12)
          have HO12 := hide ho12
          clear ho12 hb12 _hg12 hi0 hz0' hzs hzb
          clear o0 o1 o2 o3 o4 o5 v5 l0 l1 r0 r1 r2 r3 r4 r5 y0 y1 y2 y3 y4 y5 hBW hzW
          obtain ⟨hO, hL, hR, hBW, hzW⟩ := HK7.out _ (HBT.out _ B12.out)
          have o0 : w12.cell? ⟨w6.heap.size, 0, none⟩ = some (.string nm) := by {simp [World.cell?, hO]}
          have o1 : w12.cell? ⟨w6.heap.size, 1, none⟩ = some (.int .i64 span) := by {simp [World.cell?, hO]}
          have o2 : w12.cell? ⟨w6.heap.size, 2, none⟩ = some (.int .i64 wd) := by {simp [World.cell?, hO]}
          have o3 : w12.cell? ⟨w6.heap.size, 3, none⟩ = some (.int .i64 dp) := by {simp [World.cell?, hO]}
          have o4 : w12.cell? ⟨w6.heap.size, 4, none⟩ = some (.int .i64 wood) := by {simp [World.cell?, hO]}
          have o5 : w12.cell? ⟨w6.heap.size, 5, none⟩ = some (.slice none ([] : List LoadR).length 0) := by {simp [World.cell?, hO]}
          have v5 : w12.frozen? ⟨w6.heap.size, 5, none⟩ = false := by {simp [World.frozen?, hO]}
          have l0 : w12.cell? ⟨w.heap.size + 1, 0, none⟩ = some (.int .i64 a) := by simp [World.cell?, hL]
          have l1 : w12.cell? ⟨w.heap.size + 1, 1, none⟩ = some (.int .i64 t) := by simp [World.cell?, hL]
          have r0 : w12.cell? ⟨w.heap.size + 2, 0, none⟩ = some (.string ⟨#[]⟩) := by {simp [World.cell?, hR]}
          have y0 : w12.frozen? ⟨w.heap.size + 2, 0, none⟩ = false := by {simp [World.frozen?, hR]}
          have r1 : w12.cell? ⟨w.heap.size + 2, 1, none⟩ = some (.int .i64 0) := by {simp [World.cell?, hR]}
          have y1 : w12.frozen? ⟨w.heap.size + 2, 1, none⟩ = false := by {simp [World.frozen?, hR]}
          have r2 : w12.cell? ⟨w.heap.size + 2, 2, none⟩ = some (.int .i64 0) := by {simp [World.cell?, hR]}
          have y2 : w12.frozen? ⟨w.heap.size + 2, 2, none⟩ = false := by {simp [World.frozen?, hR]}
          have r3 : w12.cell? ⟨w.heap.size + 2, 3, none⟩ = some (.int .i64 0) := by {simp [World.cell?, hR]}
          have y3 : w12.frozen? ⟨w.heap.size + 2, 3, none⟩ = false := by {simp [World.frozen?, hR]}
          have r4 : w12.cell? ⟨w.heap.size + 2, 4, none⟩ = some (.int .i64 0) := by {simp [World.cell?, hR]}
          have y4 : w12.frozen? ⟨w.heap.size + 2, 4, none⟩ = false := by {simp [World.frozen?, hR]}
          have r5 : w12.cell? ⟨w.heap.size + 2, 5, none⟩ = some (.slice none 0 0) := by {simp [World.cell?, hR]}
          have y5 : w12.frozen? ⟨w.heap.size + 2, 5, none⟩ = false := by {simp [World.frozen?, hR]}
          have zq12 : w.heap.size < w12.heap.size := by omega
          have zl12 : w.heap.size + 1 < w12.heap.size := by omega
          have zr12 : w.heap.size + 2 < w12.heap.size := by omega
          have zo12 : w6.heap.size < w12.heap.size := by omega
          clear hO hL hR
          have hz12 := B12.out.size
          have HL2 := hide (show (([] : List LoadR).take 0 ++ [(⟨a, t⟩ : LoadR)]).length + (([] : List LoadR).drop 0).length = ([] : List LoadR).length + 1 by simp only [List.length_append, List.length_singleton]; rw [HTL.out, HDL.out]; omega)
          go_wp2_with (at_builtin; go_loud (refine wpList_appAnyL (ys := ([] : List LoadR).drop 0) rfl _ _ rfl w5.heap.size rfl HO12.out rfl (by have := HDL.out; omega) (.inl ⟨rfl, rfl, by simp⟩) (by rw [HL2.out]; omega) (by omega) ?_; intro A14 c14 w14 ho14 hb14; rw [HL2.out] at ho14 ⊢; have B14 := hide (B12.out.trans hb14); have HO14 := hide (show OwnL w14 w5.heap.size (.slice A14 (([] : List LoadR).length + 1) c14) (insL ([] : List LoadR) 0 ⟨a, t⟩) from ho14); obtain ⟨hO, _, hR, hBW14, hzW14⟩ := HK7.out _ (HBT.out _ B14.out); have HT14 := hide hO; clear o0 o1 o2 o3 o4 o5 v5 l0 l1 r0 r1 r2 r3 r4 r5 y0 y1 y2 y3 y4 y5 hBW hzW; have o0 : w14.cell? ⟨w6.heap.size, 0, none⟩ = some (.string nm) := by {simp [World.cell?, hO]}; have o1 : w14.cell? ⟨w6.heap.size, 1, none⟩ = some (.int .i64 span) := by {simp [World.cell?, hO]}; have o2 : w14.cell? ⟨w6.heap.size, 2, none⟩ = some (.int .i64 wd) := by {simp [World.cell?, hO]}; have o3 : w14.cell? ⟨w6.heap.size, 3, none⟩ = some (.int .i64 dp) := by {simp [World.cell?, hO]}; have o4 : w14.cell? ⟨w6.heap.size, 4, none⟩ = some (.int .i64 wood) := by {simp [World.cell?, hO]}; have o5 : w14.cell? ⟨w6.heap.size, 5, none⟩ = some (.slice none ([] : List LoadR).length 0) := by {simp [World.cell?, hO]}; have v5 : w14.frozen? ⟨w6.heap.size, 5, none⟩ = false := by {simp [World.frozen?, hO]}; have r0 : w14.cell? ⟨w.heap.size + 2, 0, none⟩ = some (.string ⟨#[]⟩) := by {simp [World.cell?, hR]}; have y0 : w14.frozen? ⟨w.heap.size + 2, 0, none⟩ = false := by {simp [World.frozen?, hR]}; have r1 : w14.cell? ⟨w.heap.size + 2, 1, none⟩ = some (.int .i64 0) := by {simp [World.cell?, hR]}; have y1 : w14.frozen? ⟨w.heap.size + 2, 1, none⟩ = false := by {simp [World.frozen?, hR]}; have r2 : w14.cell? ⟨w.heap.size + 2, 2, none⟩ = some (.int .i64 0) := by {simp [World.cell?, hR]}; have y2 : w14.frozen? ⟨w.heap.size + 2, 2, none⟩ = false := by {simp [World.frozen?, hR]}; have r3 : w14.cell? ⟨w.heap.size + 2, 3, none⟩ = some (.int .i64 0) := by {simp [World.cell?, hR]}; have y3 : w14.frozen? ⟨w.heap.size + 2, 3, none⟩ = false := by {simp [World.frozen?, hR]}; have r4 : w14.cell? ⟨w.heap.size + 2, 4, none⟩ = some (.int .i64 0) := by {simp [World.cell?, hR]}; have y4 : w14.frozen? ⟨w.heap.size + 2, 4, none⟩ = false := by {simp [World.frozen?, hR]}; have r5 : w14.cell? ⟨w.heap.size + 2, 5, none⟩ = some (.slice none 0 0) := by {simp [World.cell?, hR]}; have y5 : w14.frozen? ⟨w.heap.size + 2, 5, none⟩ = false := by {simp [World.frozen?, hR]}; have hz14 := B14.out.size; clear hO hR ho14 hb14))
          all_goals
            have BW14 := hide (show Below w.heap.size w w14 from ((HBK.out _ B6.out).2.2.2.1).trans (hBW14.mono (by omega)))
            have hq1 : w.heap.size + 2 < w5.heap.size := by omega
            refine bodyPost_ret (v := .tuple #[.agg #[.string nm, .int .i64 span, .int .i64 wd, .int .i64 dp, .int .i64 wood, .slice A14 (([] : List LoadR).length + 1) c14], .int .i64 0]) (by simp [results, Try.results9, go_sem, r0, r1, r2, r3, r4, r5]) rfl ?_
            refine ⟨nm, span, wd, dp, wood, A14, c14, insL ([] : List LoadR) 0 ⟨a, t⟩, 0, by rw [insL_len (by omega)], HE2.out, hs, by rw [insL_len (by omega)]; omega, ?_, ?_⟩
            · rw [insL_len (by omega)]
              refine Own.mono (B := w5.heap.size) ?_ (by omega)
              repeat (first | with_reducible refine own_setOut ?_ (by omega) | with_reducible exact HO14.out | with_reducible exact own_setType HO14.out HT14.out (by decide))
            · have hb := BW14.out
              exact (by repeat (first | with_reducible exact Below.refl _ _ | with_reducible assumption | (with_reducible refine Below.drew ?_) | (with_reducible refine below_drewN ?_ _) | ((with_reducible refine Below.alloc ?_ ?_ _); rotate_left; (focus (first | omega | (simp; omega) | simp))) | ((with_reducible refine Below.setCell ?_ ?_ _); rotate_left; (focus (first | omega | (simp; omega) | simp))) | (refine Below.trans ?_ (Below.mono (by assumption) (by first | omega | (simp; omega) | simp)))))
      · have hg6 := (HOLT.out g6 rfl).2
        have HSW := hide (fun (W : World) (h : Below (w6.heap.size + 1) w7 W) => (show SlAt encLoad 2 W (some ⟨g6, 0, none⟩) ls from Own.at_ (enc := encLoad) (sz := 2) (fun _ => rfl) (HOW.out W (HK7.out W h).2.2.2.1)))
        obtain ⟨hO, hL, hR, hBW, hzW⟩ := HK7.out _ B7.out
        have o0 : w7.cell? ⟨w6.heap.size, 0, none⟩ = some (.string nm) := by {simp [World.cell?, hO]}
        have o1 : w7.cell? ⟨w6.heap.size, 1, none⟩ = some (.int .i64 span) := by {simp [World.cell?, hO]}
        have o2 : w7.cell? ⟨w6.heap.size, 2, none⟩ = some (.int .i64 wd) := by {simp [World.cell?, hO]}
        have o3 : w7.cell? ⟨w6.heap.size, 3, none⟩ = some (.int .i64 dp) := by {simp [World.cell?, hO]}
        have o4 : w7.cell? ⟨w6.heap.size, 4, none⟩ = some (.int .i64 wood) := by {simp [World.cell?, hO]}
        have o5 : w7.cell? ⟨w6.heap.size, 5, none⟩ = some (.slice (some ⟨g6, 0, none⟩) ls.length c6) := by {simp [World.cell?, hO]}
        have v5 : w7.frozen? ⟨w6.heap.size, 5, none⟩ = false := by {simp [World.frozen?, hO]}
        have l0 : w7.cell? ⟨w.heap.size + 1, 0, none⟩ = some (.int .i64 a) := by simp [World.cell?, hL]
        have l1 : w7.cell? ⟨w.heap.size + 1, 1, none⟩ = some (.int .i64 t) := by simp [World.cell?, hL]
        have r0 : w7.cell? ⟨w.heap.size + 2, 0, none⟩ = some (.string ⟨#[]⟩) := by {simp [World.cell?, hR]}
        have y0 : w7.frozen? ⟨w.heap.size + 2, 0, none⟩ = false := by {simp [World.frozen?, hR]}
        have r1 : w7.cell? ⟨w.heap.size + 2, 1, none⟩ = some (.int .i64 0) := by {simp [World.cell?, hR]}
        have y1 : w7.frozen? ⟨w.heap.size + 2, 1, none⟩ = false := by {simp [World.frozen?, hR]}
        have r2 : w7.cell? ⟨w.heap.size + 2, 2, none⟩ = some (.int .i64 0) := by {simp [World.cell?, hR]}
        have y2 : w7.frozen? ⟨w.heap.size + 2, 2, none⟩ = false := by {simp [World.frozen?, hR]}
        have r3 : w7.cell? ⟨w.heap.size + 2, 3, none⟩ = some (.int .i64 0) := by {simp [World.cell?, hR]}
        have y3 : w7.frozen? ⟨w.heap.size + 2, 3, none⟩ = false := by {simp [World.frozen?, hR]}
        have r4 : w7.cell? ⟨w.heap.size + 2, 4, none⟩ = some (.int .i64 0) := by {simp [World.cell?, hR]}
        have y4 : w7.frozen? ⟨w.heap.size + 2, 4, none⟩ = false := by {simp [World.frozen?, hR]}
        have r5 : w7.cell? ⟨w.heap.size + 2, 5, none⟩ = some (.slice none 0 0) := by {simp [World.cell?, hR]}
        have y5 : w7.frozen? ⟨w.heap.size + 2, 5, none⟩ = false := by {simp [World.frozen?, hR]}
        have zq7 : w.heap.size < w7.heap.size := by omega
        have zl7 : w.heap.size + 1 < w7.heap.size := by omega
        have zr7 : w.heap.size + 2 < w7.heap.size := by omega
        have zo7 : w6.heap.size < w7.heap.size := by omega
        clear hO hL hR
        go_wp2_with fail
        clear o0 o1 o2 o3 o4 o5 v5 l0 l1 r0 r1 r2 r3 r4 r5 y0 y1 y2 y3 y4 y5 hBW hzW
        go_loopw [7] (fun v wr => ∃ p : Nat, v = .int .i64 p ∧ p ≤ ls.length ∧ Hid (∀ j (hj : j < ls.length), p ≤ j → a < ls[j].at_) ∧ Hid (Below (w6.heap.size + 1) w7 wr)) (fun v _ => (intOf v).toNat)
        case atStart => exact ⟨ls.length, rfl, Nat.le_refl _, hide (fun j hj h => by omega), B7⟩
        case round =>
          obtain ⟨p, rfl, hp, HJ, HB⟩ := hrel
          obtain ⟨hO, hL, hR, hBW, hzW⟩ := HK7.out _ HB.out
          have o0 : wr.cell? ⟨w6.heap.size, 0, none⟩ = some (.string nm) := by {simp [World.cell?, hO]}
          have o1 : wr.cell? ⟨w6.heap.size, 1, none⟩ = some (.int .i64 span) := by {simp [World.cell?, hO]}
          have o2 : wr.cell? ⟨w6.heap.size, 2, none⟩ = some (.int .i64 wd) := by {simp [World.cell?, hO]}
          have o3 : wr.cell? ⟨w6.heap.size, 3, none⟩ = some (.int .i64 dp) := by {simp [World.cell?, hO]}
          have o4 : wr.cell? ⟨w6.heap.size, 4, none⟩ = some (.int .i64 wood) := by {simp [World.cell?, hO]}
          have o5 : wr.cell? ⟨w6.heap.size, 5, none⟩ = some (.slice (some ⟨g6, 0, none⟩) ls.length c6) := by {simp [World.cell?, hO]}
          have v5 : wr.frozen? ⟨w6.heap.size, 5, none⟩ = false := by {simp [World.frozen?, hO]}
          have l0 : wr.cell? ⟨w.heap.size + 1, 0, none⟩ = some (.int .i64 a) := by simp [World.cell?, hL]
          have l1 : wr.cell? ⟨w.heap.size + 1, 1, none⟩ = some (.int .i64 t) := by simp [World.cell?, hL]
          have r0 : wr.cell? ⟨w.heap.size + 2, 0, none⟩ = some (.string ⟨#[]⟩) := by {simp [World.cell?, hR]}
          have y0 : wr.frozen? ⟨w.heap.size + 2, 0, none⟩ = false := by {simp [World.frozen?, hR]}
          have r1 : wr.cell? ⟨w.heap.size + 2, 1, none⟩ = some (.int .i64 0) := by {simp [World.cell?, hR]}
          have y1 : wr.frozen? ⟨w.heap.size + 2, 1, none⟩ = false := by {simp [World.frozen?, hR]}
          have r2 : wr.cell? ⟨w.heap.size + 2, 2, none⟩ = some (.int .i64 0) := by {simp [World.cell?, hR]}
          have y2 : wr.frozen? ⟨w.heap.size + 2, 2, none⟩ = false := by {simp [World.frozen?, hR]}
          have r3 : wr.cell? ⟨w.heap.size + 2, 3, none⟩ = some (.int .i64 0) := by {simp [World.cell?, hR]}
          have y3 : wr.frozen? ⟨w.heap.size + 2, 3, none⟩ = false := by {simp [World.frozen?, hR]}
          have r4 : wr.cell? ⟨w.heap.size + 2, 4, none⟩ = some (.int .i64 0) := by {simp [World.cell?, hR]}
          have y4 : wr.frozen? ⟨w.heap.size + 2, 4, none⟩ = false := by {simp [World.frozen?, hR]}
          have r5 : wr.cell? ⟨w.heap.size + 2, 5, none⟩ = some (.slice none 0 0) := by {simp [World.cell?, hR]}
          have y5 : wr.frozen? ⟨w.heap.size + 2, 5, none⟩ = false := by {simp [World.frozen?, hR]}
          have zqr : w.heap.size < wr.heap.size := by omega
          have zlr : w.heap.size + 1 < wr.heap.size := by omega
          have zrr : w.heap.size + 2 < wr.heap.size := by omega
          have zor : w6.heap.size < wr.heap.size := by omega
          clear hO hL hR
          match p with
          | 0 =>
            have HEN := (fun j (hj : j < ls.length) (h : j < 0) => (show ls[j].at_ ≤ a from absurd h (by omega)))
            go_wp2_with fail
            refine wp_region_kept (by kernel_rfl) (by kernel_rfl) ?_
            intro gc gf gz
            repeat (go_big_quiet_step (fail))
            refine wpQuiet_nil ?_
            intro w5 hw'
            obtain ⟨⟨_, hb5⟩, rfl⟩ := hw'
            clear gc gf gz
            try dsimp only
            have fs5 := hb5.size
            try simp at fs5 hb5
            have BT := hide (HB.out.trans (hb5.mono (by omega)))
            clear hb5
            clear o0 o1 o2 o3 o4 o5 v5 l0 l1 r0 r1 r2 r3 r4 r5 y0 y1 y2 y3 y4 y5 hBW hzW
            have hpo := posL_at (a := a) (k := 0) hp HEN (fun h => HJ.out _ h (Nat.le_refl _))
            have HE2 := hide (show addR nm span wd dp wood ls a t = ((nm, span, wd, dp, wood), insL ls 0 ⟨a, t⟩, 0) from by rw [e.out, hpo])
            clear hpo HEN
            obtain ⟨hO, hL, hR, hBW, hzW⟩ := HK7.out _ BT.out
            have o0 : w5.cell? ⟨w6.heap.size, 0, none⟩ = some (.string nm) := by {simp [World.cell?, hO]}
            have o1 : w5.cell? ⟨w6.heap.size, 1, none⟩ = some (.int .i64 span) := by {simp [World.cell?, hO]}
            have o2 : w5.cell? ⟨w6.heap.size, 2, none⟩ = some (.int .i64 wd) := by {simp [World.cell?, hO]}
            have o3 : w5.cell? ⟨w6.heap.size, 3, none⟩ = some (.int .i64 dp) := by {simp [World.cell?, hO]}
            have o4 : w5.cell? ⟨w6.heap.size, 4, none⟩ = some (.int .i64 wood) := by {simp [World.cell?, hO]}
            have o5 : w5.cell? ⟨w6.heap.size, 5, none⟩ = some (.slice (some ⟨g6, 0, none⟩) ls.length c6) := by {simp [World.cell?, hO]}
            have v5 : w5.frozen? ⟨w6.heap.size, 5, none⟩ = false := by {simp [World.frozen?, hO]}
            have l0 : w5.cell? ⟨w.heap.size + 1, 0, none⟩ = some (.int .i64 a) := by simp [World.cell?, hL]
            have l1 : w5.cell? ⟨w.heap.size + 1, 1, none⟩ = some (.int .i64 t) := by simp [World.cell?, hL]
            have r0 : w5.cell? ⟨w.heap.size + 2, 0, none⟩ = some (.string ⟨#[]⟩) := by {simp [World.cell?, hR]}
            have y0 : w5.frozen? ⟨w.heap.size + 2, 0, none⟩ = false := by {simp [World.frozen?, hR]}
            have r1 : w5.cell? ⟨w.heap.size + 2, 1, none⟩ = some (.int .i64 0) := by {simp [World.cell?, hR]}
            have y1 : w5.frozen? ⟨w.heap.size + 2, 1, none⟩ = false := by {simp [World.frozen?, hR]}
            have r2 : w5.cell? ⟨w.heap.size + 2, 2, none⟩ = some (.int .i64 0) := by {simp [World.cell?, hR]}
            have y2 : w5.frozen? ⟨w.heap.size + 2, 2, none⟩ = false := by {simp [World.frozen?, hR]}
            have r3 : w5.cell? ⟨w.heap.size + 2, 3, none⟩ = some (.int .i64 0) := by {simp [World.cell?, hR]}
            have y3 : w5.frozen? ⟨w.heap.size + 2, 3, none⟩ = false := by {simp [World.frozen?, hR]}
            have r4 : w5.cell? ⟨w.heap.size + 2, 4, none⟩ = some (.int .i64 0) := by {simp [World.cell?, hR]}
            have y4 : w5.frozen? ⟨w.heap.size + 2, 4, none⟩ = false := by {simp [World.frozen?, hR]}
            have r5 : w5.cell? ⟨w.heap.size + 2, 5, none⟩ = some (.slice none 0 0) := by {simp [World.cell?, hR]}
            have y5 : w5.frozen? ⟨w.heap.size + 2, 5, none⟩ = false := by {simp [World.frozen?, hR]}
            have zq5 : w.heap.size < w5.heap.size := by omega
            have zl5 : w.heap.size + 1 < w5.heap.size := by omega
            have zr5 : w.heap.size + 2 < w5.heap.size := by omega
            have zo5 : w6.heap.size < w5.heap.size := by omega
            clear hO hL hR
            have hzT : w6.heap.size + 1 ≤ w5.heap.size := hzW
            have hz9 : (w5.alloc (.cells #[] 34)).heap.size = w5.heap.size + 1 := by simp
            have HM := hide (show OwnL (w5.alloc (.cells #[] 34)) w5.heap.size (.slice (some ⟨w5.heap.size, 0, none⟩) 0 0) [] from own_made _ rfl (Nat.le_refl _))
            have hB9 := (show Below w5.heap.size w5 (w5.alloc (.cells #[] 34)) from (Below.refl _ _).alloc (Nat.le_refl _) _)
            have HB9 := hide hB9
            clear hB9
            have htl : (ls.take 0).length = 0 := by rw [List.length_take]; omega
            have hdl : (ls.drop 0).length = ls.length - 0 := by rw [List.length_drop]
            have HTL := hide htl
            have HDL := hide hdl
            have hl0 : ([] : List LoadR).length + (ls.take 0).length = 0 := by rw [htl]; simp
            have HL0 := hide hl0
            clear htl hdl hl0
            have HBT := hide (fun (W' : World) (h : Below w5.heap.size w5 W') => BT.out.trans (h.mono hzT))
            clear hz9
            go_upto_region 12 with fail
            have B10 := HB9
            have HO10 := hide (show OwnL (w5.alloc (.cells #[] 34)) w5.heap.size (.slice (some ⟨w5.heap.size, 0, none⟩) 0 0) (ls.take 0) from HM.out)
            generalize hw10 : w5.alloc (.cells #[] 34) = w10 at *
            clear hw10
            clear o0 o1 o2 o3 o4 o5 v5 l0 l1 r0 r1 r2 r3 r4 r5 y0 y1 y2 y3 y4 y5 hBW hzW
            obtain ⟨hO, hL, hR, hBW, hzW⟩ := HK7.out _ (HBT.out _ B10.out)
            have o0 : w10.cell? ⟨w6.heap.size, 0, none⟩ = some (.string nm) := by {simp [World.cell?, hO]}
            have o1 : w10.cell? ⟨w6.heap.size, 1, none⟩ = some (.int .i64 span) := by {simp [World.cell?, hO]}
            have o2 : w10.cell? ⟨w6.heap.size, 2, none⟩ = some (.int .i64 wd) := by {simp [World.cell?, hO]}
            have o3 : w10.cell? ⟨w6.heap.size, 3, none⟩ = some (.int .i64 dp) := by {simp [World.cell?, hO]}
            have o4 : w10.cell? ⟨w6.heap.size, 4, none⟩ = some (.int .i64 wood) := by {simp [World.cell?, hO]}
            have o5 : w10.cell? ⟨w6.heap.size, 5, none⟩ = some (.slice (some ⟨g6, 0, none⟩) ls.length c6) := by {simp [World.cell?, hO]}
            have v5 : w10.frozen? ⟨w6.heap.size, 5, none⟩ = false := by {simp [World.frozen?, hO]}
            have l0 : w10.cell? ⟨w.heap.size + 1, 0, none⟩ = some (.int .i64 a) := by simp [World.cell?, hL]
            have l1 : w10.cell? ⟨w.heap.size + 1, 1, none⟩ = some (.int .i64 t) := by simp [World.cell?, hL]
            have r0 : w10.cell? ⟨w.heap.size + 2, 0, none⟩ = some (.string ⟨#[]⟩) := by {simp [World.cell?, hR]}
            have y0 : w10.frozen? ⟨w.heap.size + 2, 0, none⟩ = false := by {simp [World.frozen?, hR]}
            have r1 : w10.cell? ⟨w.heap.size + 2, 1, none⟩ = some (.int .i64 0) := by {simp [World.cell?, hR]}
            have y1 : w10.frozen? ⟨w.heap.size + 2, 1, none⟩ = false := by {simp [World.frozen?, hR]}
            have r2 : w10.cell? ⟨w.heap.size + 2, 2, none⟩ = some (.int .i64 0) := by {simp [World.cell?, hR]}
            have y2 : w10.frozen? ⟨w.heap.size + 2, 2, none⟩ = false := by {simp [World.frozen?, hR]}
            have r3 : w10.cell? ⟨w.heap.size + 2, 3, none⟩ = some (.int .i64 0) := by {simp [World.cell?, hR]}
            have y3 : w10.frozen? ⟨w.heap.size + 2, 3, none⟩ = false := by {simp [World.frozen?, hR]}
            have r4 : w10.cell? ⟨w.heap.size + 2, 4, none⟩ = some (.int .i64 0) := by {simp [World.cell?, hR]}
            have y4 : w10.frozen? ⟨w.heap.size + 2, 4, none⟩ = false := by {simp [World.frozen?, hR]}
            have r5 : w10.cell? ⟨w.heap.size + 2, 5, none⟩ = some (.slice none 0 0) := by {simp [World.cell?, hR]}
            have y5 : w10.frozen? ⟨w.heap.size + 2, 5, none⟩ = false := by {simp [World.frozen?, hR]}
            have zq10 : w.heap.size < w10.heap.size := by omega
            have zl10 : w.heap.size + 1 < w10.heap.size := by omega
            have zr10 : w.heap.size + 2 < w10.heap.size := by omega
            have zo10 : w6.heap.size < w10.heap.size := by omega
            clear hO hL hR
            have hz10 := B10.out.size
            have HO11 := hide (show OwnL (w10.alloc (.cells #[.int .i64 a, .int .i64 t] 34)) w5.heap.size (.slice (some ⟨w5.heap.size, 0, none⟩) 0 0) (ls.take 0) from HO10.out.below ((Below.refl _ _).alloc (Nat.le_refl _) _))
            have HB11 := hide (B10.out.alloc hz10 (.cells #[.int .i64 a, .int .i64 t] 34))
            have hv11 : (w10.alloc (.cells #[.int .i64 a, .int .i64 t] 34)).heap[w10.heap.size]? = some (.cells (encLoad ⟨a, t⟩).toArray 34 (0, 0)) := heap_alloc_new w10 _
            have HV11 := hide (show ∀ (j : Nat) (u : Value), (encLoad ⟨a, t⟩)[j]? = some u → (w10.alloc (.cells #[.int .i64 a, .int .i64 t] 34)).cell? ((⟨w10.heap.size, 0, none⟩ : Addr).add j) = some u from fun j u hj => by rw [Addr.add_lit, Nat.zero_add]; simp only [World.cell?, hv11]; simpa using hj)
            clear hv11
            obtain ⟨i0, hi0, hz0', hzs, hzb⟩ := info_parts info_LdA
            have HL1 := hide (show (ls.take 0).length + 1 = 0 + 1 by rw [HTL.out])
            go_upto_region 13 with (at_builtin; go_loud (refine wpList_app (sz := 2) (bytes := 16) Try.underlying28 hi0 hz0' hzs hzb rfl (by omega) (by omega) (fun _ => rfl) rfl _ _ rfl w5.heap.size rfl HO11.out ⟨a, t⟩ (encL_one _) rfl HV11.out (by rw [HTL.out]; omega) (by simp; omega) ?_; intro A12 c12 w12 ho12 hb12 _hg12; rw [HL1.out] at ho12 ⊢))
            have B12 := hide (HB11.out.trans hb12)
            have HO12 := hide ho12
            clear ho12 hb12 _hg12 hi0 hz0' hzs hzb
            clear o0 o1 o2 o3 o4 o5 v5 l0 l1 r0 r1 r2 r3 r4 r5 y0 y1 y2 y3 y4 y5 hBW hzW
            obtain ⟨hO, hL, hR, hBW, hzW⟩ := HK7.out _ (HBT.out _ B12.out)
            have o0 : w12.cell? ⟨w6.heap.size, 0, none⟩ = some (.string nm) := by {simp [World.cell?, hO]}
            have o1 : w12.cell? ⟨w6.heap.size, 1, none⟩ = some (.int .i64 span) := by {simp [World.cell?, hO]}
            have o2 : w12.cell? ⟨w6.heap.size, 2, none⟩ = some (.int .i64 wd) := by {simp [World.cell?, hO]}
            have o3 : w12.cell? ⟨w6.heap.size, 3, none⟩ = some (.int .i64 dp) := by {simp [World.cell?, hO]}
            have o4 : w12.cell? ⟨w6.heap.size, 4, none⟩ = some (.int .i64 wood) := by {simp [World.cell?, hO]}
            have o5 : w12.cell? ⟨w6.heap.size, 5, none⟩ = some (.slice (some ⟨g6, 0, none⟩) ls.length c6) := by {simp [World.cell?, hO]}
            have v5 : w12.frozen? ⟨w6.heap.size, 5, none⟩ = false := by {simp [World.frozen?, hO]}
            have l0 : w12.cell? ⟨w.heap.size + 1, 0, none⟩ = some (.int .i64 a) := by simp [World.cell?, hL]
            have l1 : w12.cell? ⟨w.heap.size + 1, 1, none⟩ = some (.int .i64 t) := by simp [World.cell?, hL]
            have r0 : w12.cell? ⟨w.heap.size + 2, 0, none⟩ = some (.string ⟨#[]⟩) := by {simp [World.cell?, hR]}
            have y0 : w12.frozen? ⟨w.heap.size + 2, 0, none⟩ = false := by {simp [World.frozen?, hR]}
            have r1 : w12.cell? ⟨w.heap.size + 2, 1, none⟩ = some (.int .i64 0) := by {simp [World.cell?, hR]}
            have y1 : w12.frozen? ⟨w.heap.size + 2, 1, none⟩ = false := by {simp [World.frozen?, hR]}
            have r2 : w12.cell? ⟨w.heap.size + 2, 2, none⟩ = some (.int .i64 0) := by {simp [World.cell?, hR]}
            have y2 : w12.frozen? ⟨w.heap.size + 2, 2, none⟩ = false := by {simp [World.frozen?, hR]}
            have r3 : w12.cell? ⟨w.heap.size + 2, 3, none⟩ = some (.int .i64 0) := by {simp [World.cell?, hR]}
            have y3 : w12.frozen? ⟨w.heap.size + 2, 3, none⟩ = false := by {simp [World.frozen?, hR]}
            have r4 : w12.cell? ⟨w.heap.size + 2, 4, none⟩ = some (.int .i64 0) := by {simp [World.cell?, hR]}
            have y4 : w12.frozen? ⟨w.heap.size + 2, 4, none⟩ = false := by {simp [World.frozen?, hR]}
            have r5 : w12.cell? ⟨w.heap.size + 2, 5, none⟩ = some (.slice none 0 0) := by {simp [World.cell?, hR]}
            have y5 : w12.frozen? ⟨w.heap.size + 2, 5, none⟩ = false := by {simp [World.frozen?, hR]}
            have zq12 : w.heap.size < w12.heap.size := by omega
            have zl12 : w.heap.size + 1 < w12.heap.size := by omega
            have zr12 : w.heap.size + 2 < w12.heap.size := by omega
            have zo12 : w6.heap.size < w12.heap.size := by omega
            clear hO hL hR
            have hz12 := B12.out.size
            have HL2 := hide (show (ls.take 0 ++ [(⟨a, t⟩ : LoadR)]).length + (ls.drop 0).length = ls.length + 1 by simp only [List.length_append, List.length_singleton]; rw [HTL.out, HDL.out]; omega)
            go_wp2_with (at_builtin; go_loud (refine wpList_appAnyL (ys := ls.drop 0) rfl _ _ rfl w5.heap.size rfl HO12.out rfl (by have := HDL.out; omega) (.inr ⟨g6, 0, rfl, by rw [List.drop_zero]; exact HSW.out _ (HBT.out _ B12.out)⟩) (by rw [HL2.out]; omega) (by omega) ?_; intro A14 c14 w14 ho14 hb14; rw [HL2.out] at ho14 ⊢; have B14 := hide (B12.out.trans hb14); have HO14 := hide (show OwnL w14 w5.heap.size (.slice A14 (ls.length + 1) c14) (insL ls 0 ⟨a, t⟩) from ho14); obtain ⟨hO, _, hR, hBW14, hzW14⟩ := HK7.out _ (HBT.out _ B14.out); have HT14 := hide hO; clear o0 o1 o2 o3 o4 o5 v5 l0 l1 r0 r1 r2 r3 r4 r5 y0 y1 y2 y3 y4 y5 hBW hzW; have o0 : w14.cell? ⟨w6.heap.size, 0, none⟩ = some (.string nm) := by {simp [World.cell?, hO]}; have o1 : w14.cell? ⟨w6.heap.size, 1, none⟩ = some (.int .i64 span) := by {simp [World.cell?, hO]}; have o2 : w14.cell? ⟨w6.heap.size, 2, none⟩ = some (.int .i64 wd) := by {simp [World.cell?, hO]}; have o3 : w14.cell? ⟨w6.heap.size, 3, none⟩ = some (.int .i64 dp) := by {simp [World.cell?, hO]}; have o4 : w14.cell? ⟨w6.heap.size, 4, none⟩ = some (.int .i64 wood) := by {simp [World.cell?, hO]}; have o5 : w14.cell? ⟨w6.heap.size, 5, none⟩ = some (.slice (some ⟨g6, 0, none⟩) ls.length c6) := by {simp [World.cell?, hO]}; have v5 : w14.frozen? ⟨w6.heap.size, 5, none⟩ = false := by {simp [World.frozen?, hO]}; have r0 : w14.cell? ⟨w.heap.size + 2, 0, none⟩ = some (.string ⟨#[]⟩) := by {simp [World.cell?, hR]}; have y0 : w14.frozen? ⟨w.heap.size + 2, 0, none⟩ = false := by {simp [World.frozen?, hR]}; have r1 : w14.cell? ⟨w.heap.size + 2, 1, none⟩ = some (.int .i64 0) := by {simp [World.cell?, hR]}; have y1 : w14.frozen? ⟨w.heap.size + 2, 1, none⟩ = false := by {simp [World.frozen?, hR]}; have r2 : w14.cell? ⟨w.heap.size + 2, 2, none⟩ = some (.int .i64 0) := by {simp [World.cell?, hR]}; have y2 : w14.frozen? ⟨w.heap.size + 2, 2, none⟩ = false := by {simp [World.frozen?, hR]}; have r3 : w14.cell? ⟨w.heap.size + 2, 3, none⟩ = some (.int .i64 0) := by {simp [World.cell?, hR]}; have y3 : w14.frozen? ⟨w.heap.size + 2, 3, none⟩ = false := by {simp [World.frozen?, hR]}; have r4 : w14.cell? ⟨w.heap.size + 2, 4, none⟩ = some (.int .i64 0) := by {simp [World.cell?, hR]}; have y4 : w14.frozen? ⟨w.heap.size + 2, 4, none⟩ = false := by {simp [World.frozen?, hR]}; have r5 : w14.cell? ⟨w.heap.size + 2, 5, none⟩ = some (.slice none 0 0) := by {simp [World.cell?, hR]}; have y5 : w14.frozen? ⟨w.heap.size + 2, 5, none⟩ = false := by {simp [World.frozen?, hR]}; have hz14 := B14.out.size; clear hO hR ho14 hb14))
            all_goals
              have BW14 := hide (show Below w.heap.size w w14 from ((HBK.out _ B6.out).2.2.2.1).trans (hBW14.mono (by omega)))
              have hq1 : w.heap.size + 2 < w5.heap.size := by omega
              refine bodyPost_ret (v := .tuple #[.agg #[.string nm, .int .i64 span, .int .i64 wd, .int .i64 dp, .int .i64 wood, .slice A14 (ls.length + 1) c14], .int .i64 0]) (by simp [results, Try.results9, go_sem, r0, r1, r2, r3, r4, r5]) rfl ?_
              refine ⟨nm, span, wd, dp, wood, A14, c14, insL ls 0 ⟨a, t⟩, 0, by rw [insL_len (by omega)], HE2.out, hs, by rw [insL_len (by omega)]; omega, ?_, ?_⟩
              · rw [insL_len (by omega)]
                refine Own.mono (B := w5.heap.size) ?_ (by omega)
                repeat (first | with_reducible refine own_setOut ?_ (by omega) | with_reducible exact HO14.out | with_reducible exact own_setType HO14.out HT14.out (by decide))
              · have hb := BW14.out
                exact (by repeat (first | with_reducible exact Below.refl _ _ | with_reducible assumption | (with_reducible refine Below.drew ?_) | (with_reducible refine below_drewN ?_ _) | ((with_reducible refine Below.alloc ?_ ?_ _); rotate_left; (focus (first | omega | (simp; omega) | simp))) | ((with_reducible refine Below.setCell ?_ ?_ _); rotate_left; (focus (first | omega | (simp; omega) | simp))) | (refine Below.trans ?_ (Below.mono (by assumption) (by first | omega | (simp; omega) | simp)))))
          | p + 1 =>
            obtain ⟨b2, o2, e2, hb2, hc⟩ := HSW.out wr HB.out p (by omega)
            injection e2 with e2
            injection e2 with e2 e3
            subst e2
            subst e3
            have x0 := hc 0 _ rfl
            simp only [Nat.add_zero, Nat.zero_add] at x0
            clear hc
            have hpl : (p : Int) < (ls.length : Int) := by omega
            by_cases hq : a < ls[p].at_
            · have dq : decide (a < ls[p].at_) = true := by simp; omega
              have HJ2 := hide (show ∀ j (hj : j < ls.length), p ≤ j → a < ls[j].at_ from fun j hj hjk => by
                by_cases ej : j = p
                · subst ej; exact hq
                · exact HJ.out j hj (by omega))
              clear hq
              generalize ls[p].at_ = ak at *
              go_wp2_with fail
              refine wp_region_kept (by kernel_rfl) (by kernel_rfl) ?_
              intro gc gf gz
              repeat (go_big_quiet_step (fail))
              refine wpQuiet_nil ?_
              intro w5 hw'
              obtain ⟨⟨_, hb5⟩, rfl⟩ := hw'
              clear gc gf gz
              try dsimp only
              have fs5 := hb5.size
              try simp at fs5 hb5
              have HB5 := hide (HB.out.trans (hb5.mono (by omega)))
              clear hb5 x0
              clear o0 o1 o2 o3 o4 o5 v5 l0 l1 r0 r1 r2 r3 r4 r5 y0 y1 y2 y3 y4 y5 hBW hzW
              go_wp2_with fail
              go_roundw
              case rel => exact ⟨p, by go_num, by omega, HJ2, HB5⟩
              case measure => simp [intOf]
            · have dq : decide (a < ls[p].at_) = false := by simp; omega
              have HEN := (fun j (hj : j < ls.length) (h : j < p + 1) => (show ls[j].at_ ≤ a from by
                have q := HRI.out (p - j) j (by omega)
                have e : j + (p - j) = p := by omega
                simp only [e] at q
                omega))
              have HEN2 := hide HEN
              clear hq HEN
              have HEN := HEN2
              have HLP := hide (rfl : ls[p].at_ = ls[p].at_)
              clear HLP
              generalize ls[p].at_ = ak at dq x0
              go_wp2_with fail
              refine wp_region_kept (by kernel_rfl) (by kernel_rfl) ?_
              intro gc gf gz
              repeat (go_big_quiet_step (fail))
              refine wpQuiet_nil ?_
              intro w5 hw'
              obtain ⟨⟨_, hb5⟩, rfl⟩ := hw'
              clear gc gf gz
              try dsimp only
              have fs5 := hb5.size
              try simp at fs5 hb5
              have BT := hide (HB.out.trans (hb5.mono (by omega)))
              clear hb5 x0 dq HEN
              clear o0 o1 o2 o3 o4 o5 v5 l0 l1 r0 r1 r2 r3 r4 r5 y0 y1 y2 y3 y4 y5 hBW hzW
              have HEN := HEN2.out
              have hpo := posL_at (a := a) (k := (p + 1)) hp HEN (fun h => HJ.out _ h (Nat.le_refl _))
              have HE2 := hide (show addR nm span wd dp wood ls a t = ((nm, span, wd, dp, wood), insL ls (p + 1) ⟨a, t⟩, 0) from by rw [e.out, hpo])
              clear hpo HEN
              obtain ⟨hO, hL, hR, hBW, hzW⟩ := HK7.out _ BT.out
              have o0 : w5.cell? ⟨w6.heap.size, 0, none⟩ = some (.string nm) := by {simp [World.cell?, hO]}
              have o1 : w5.cell? ⟨w6.heap.size, 1, none⟩ = some (.int .i64 span) := by {simp [World.cell?, hO]}
              have o2 : w5.cell? ⟨w6.heap.size, 2, none⟩ = some (.int .i64 wd) := by {simp [World.cell?, hO]}
              have o3 : w5.cell? ⟨w6.heap.size, 3, none⟩ = some (.int .i64 dp) := by {simp [World.cell?, hO]}
              have o4 : w5.cell? ⟨w6.heap.size, 4, none⟩ = some (.int .i64 wood) := by {simp [World.cell?, hO]}
              have o5 : w5.cell? ⟨w6.heap.size, 5, none⟩ = some (.slice (some ⟨g6, 0, none⟩) ls.length c6) := by {simp [World.cell?, hO]}
              have v5 : w5.frozen? ⟨w6.heap.size, 5, none⟩ = false := by {simp [World.frozen?, hO]}
              have l0 : w5.cell? ⟨w.heap.size + 1, 0, none⟩ = some (.int .i64 a) := by simp [World.cell?, hL]
              have l1 : w5.cell? ⟨w.heap.size + 1, 1, none⟩ = some (.int .i64 t) := by simp [World.cell?, hL]
              have r0 : w5.cell? ⟨w.heap.size + 2, 0, none⟩ = some (.string ⟨#[]⟩) := by {simp [World.cell?, hR]}
              have y0 : w5.frozen? ⟨w.heap.size + 2, 0, none⟩ = false := by {simp [World.frozen?, hR]}
              have r1 : w5.cell? ⟨w.heap.size + 2, 1, none⟩ = some (.int .i64 0) := by {simp [World.cell?, hR]}
              have y1 : w5.frozen? ⟨w.heap.size + 2, 1, none⟩ = false := by {simp [World.frozen?, hR]}
              have r2 : w5.cell? ⟨w.heap.size + 2, 2, none⟩ = some (.int .i64 0) := by {simp [World.cell?, hR]}
              have y2 : w5.frozen? ⟨w.heap.size + 2, 2, none⟩ = false := by {simp [World.frozen?, hR]}
              have r3 : w5.cell? ⟨w.heap.size + 2, 3, none⟩ = some (.int .i64 0) := by {simp [World.cell?, hR]}
              have y3 : w5.frozen? ⟨w.heap.size + 2, 3, none⟩ = false := by {simp [World.frozen?, hR]}
              have r4 : w5.cell? ⟨w.heap.size + 2, 4, none⟩ = some (.int .i64 0) := by {simp [World.cell?, hR]}
              have y4 : w5.frozen? ⟨w.heap.size + 2, 4, none⟩ = false := by {simp [World.frozen?, hR]}
              have r5 : w5.cell? ⟨w.heap.size + 2, 5, none⟩ = some (.slice none 0 0) := by {simp [World.cell?, hR]}
              have y5 : w5.frozen? ⟨w.heap.size + 2, 5, none⟩ = false := by {simp [World.frozen?, hR]}
              have zq5 : w.heap.size < w5.heap.size := by omega
              have zl5 : w.heap.size + 1 < w5.heap.size := by omega
              have zr5 : w.heap.size + 2 < w5.heap.size := by omega
              have zo5 : w6.heap.size < w5.heap.size := by omega
              clear hO hL hR
              have hzT : w6.heap.size + 1 ≤ w5.heap.size := hzW
              have hz9 : (w5.alloc (.cells #[] 34)).heap.size = w5.heap.size + 1 := by simp
              have HM := hide (show OwnL (w5.alloc (.cells #[] 34)) w5.heap.size (.slice (some ⟨w5.heap.size, 0, none⟩) 0 0) [] from own_made _ rfl (Nat.le_refl _))
              have hB9 := (show Below w5.heap.size w5 (w5.alloc (.cells #[] 34)) from (Below.refl _ _).alloc (Nat.le_refl _) _)
              have HB9 := hide hB9
              clear hB9
              have htl : (ls.take (p + 1)).length = (p + 1) := by rw [List.length_take]; omega
              have hdl : (ls.drop (p + 1)).length = ls.length - (p + 1) := by rw [List.length_drop]
              have HTL := hide htl
              have HDL := hide hdl
              have hl0 : ([] : List LoadR).length + (ls.take (p + 1)).length = (p + 1) := by rw [htl]; simp
              have HL0 := hide hl0
              clear htl hdl hl0
              have HBT := hide (fun (W' : World) (h : Below w5.heap.size w5 W') => BT.out.trans (h.mono hzT))
              clear hz9
              go_upto_region 12 with (at_builtin; go_loud (refine wpList_appAnyL (ys := ls.take (p + 1)) rfl _ _ rfl w5.heap.size rfl HM.out rfl (by rw [HTL.out]) (.inr ⟨g6, 0, rfl, slAt_takeL (HSW.out _ (HBT.out _ HB9.out))⟩) (by rw [HTL.out]; simp; omega) (by simp) ?_; intro A10 c10 w10 ho10 hb10; rw [HL0.out] at ho10 ⊢))
              have B10 := hide (HB9.out.trans hb10)
              have HO10 := hide (show OwnL w10 w5.heap.size (.slice A10 (p + 1) c10) (ls.take (p + 1)) from by simpa using ho10)
              clear ho10 hb10
              clear o0 o1 o2 o3 o4 o5 v5 l0 l1 r0 r1 r2 r3 r4 r5 y0 y1 y2 y3 y4 y5 hBW hzW
              obtain ⟨hO, hL, hR, hBW, hzW⟩ := HK7.out _ (HBT.out _ B10.out)
              have o0 : w10.cell? ⟨w6.heap.size, 0, none⟩ = some (.string nm) := by {simp [World.cell?, hO]}
              have o1 : w10.cell? ⟨w6.heap.size, 1, none⟩ = some (.int .i64 span) := by {simp [World.cell?, hO]}
              have o2 : w10.cell? ⟨w6.heap.size, 2, none⟩ = some (.int .i64 wd) := by {simp [World.cell?, hO]}
              have o3 : w10.cell? ⟨w6.heap.size, 3, none⟩ = some (.int .i64 dp) := by {simp [World.cell?, hO]}
              have o4 : w10.cell? ⟨w6.heap.size, 4, none⟩ = some (.int .i64 wood) := by {simp [World.cell?, hO]}
              have o5 : w10.cell? ⟨w6.heap.size, 5, none⟩ = some (.slice (some ⟨g6, 0, none⟩) ls.length c6) := by {simp [World.cell?, hO]}
              have v5 : w10.frozen? ⟨w6.heap.size, 5, none⟩ = false := by {simp [World.frozen?, hO]}
              have l0 : w10.cell? ⟨w.heap.size + 1, 0, none⟩ = some (.int .i64 a) := by simp [World.cell?, hL]
              have l1 : w10.cell? ⟨w.heap.size + 1, 1, none⟩ = some (.int .i64 t) := by simp [World.cell?, hL]
              have r0 : w10.cell? ⟨w.heap.size + 2, 0, none⟩ = some (.string ⟨#[]⟩) := by {simp [World.cell?, hR]}
              have y0 : w10.frozen? ⟨w.heap.size + 2, 0, none⟩ = false := by {simp [World.frozen?, hR]}
              have r1 : w10.cell? ⟨w.heap.size + 2, 1, none⟩ = some (.int .i64 0) := by {simp [World.cell?, hR]}
              have y1 : w10.frozen? ⟨w.heap.size + 2, 1, none⟩ = false := by {simp [World.frozen?, hR]}
              have r2 : w10.cell? ⟨w.heap.size + 2, 2, none⟩ = some (.int .i64 0) := by {simp [World.cell?, hR]}
              have y2 : w10.frozen? ⟨w.heap.size + 2, 2, none⟩ = false := by {simp [World.frozen?, hR]}
              have r3 : w10.cell? ⟨w.heap.size + 2, 3, none⟩ = some (.int .i64 0) := by {simp [World.cell?, hR]}
              have y3 : w10.frozen? ⟨w.heap.size + 2, 3, none⟩ = false := by {simp [World.frozen?, hR]}
              have r4 : w10.cell? ⟨w.heap.size + 2, 4, none⟩ = some (.int .i64 0) := by {simp [World.cell?, hR]}
              have y4 : w10.frozen? ⟨w.heap.size + 2, 4, none⟩ = false := by {simp [World.frozen?, hR]}
              have r5 : w10.cell? ⟨w.heap.size + 2, 5, none⟩ = some (.slice none 0 0) := by {simp [World.cell?, hR]}
              have y5 : w10.frozen? ⟨w.heap.size + 2, 5, none⟩ = false := by {simp [World.frozen?, hR]}
              have zq10 : w.heap.size < w10.heap.size := by omega
              have zl10 : w.heap.size + 1 < w10.heap.size := by omega
              have zr10 : w.heap.size + 2 < w10.heap.size := by omega
              have zo10 : w6.heap.size < w10.heap.size := by omega
              clear hO hL hR
              have hz10 := B10.out.size
              have HO11 := hide (show OwnL (w10.alloc (.cells #[.int .i64 a, .int .i64 t] 34)) w5.heap.size (.slice A10 (p + 1) c10) (ls.take (p + 1)) from HO10.out.below ((Below.refl _ _).alloc (Nat.le_refl _) _))
              have HB11 := hide (B10.out.alloc hz10 (.cells #[.int .i64 a, .int .i64 t] 34))
              have hv11 : (w10.alloc (.cells #[.int .i64 a, .int .i64 t] 34)).heap[w10.heap.size]? = some (.cells (encLoad ⟨a, t⟩).toArray 34 (0, 0)) := heap_alloc_new w10 _
              have HV11 := hide (show ∀ (j : Nat) (u : Value), (encLoad ⟨a, t⟩)[j]? = some u → (w10.alloc (.cells #[.int .i64 a, .int .i64 t] 34)).cell? ((⟨w10.heap.size, 0, none⟩ : Addr).add j) = some u from fun j u hj => by rw [Addr.add_lit, Nat.zero_add]; simp only [World.cell?, hv11]; simpa using hj)
              clear hv11
              obtain ⟨i0, hi0, hz0', hzs, hzb⟩ := info_parts info_LdA
              have HL1 := hide (show (ls.take (p + 1)).length + 1 = (p + 1) + 1 by rw [HTL.out])
              go_upto_region 13 with (at_builtin; go_loud (refine wpList_app (sz := 2) (bytes := 16) Try.underlying28 hi0 hz0' hzs hzb rfl (by omega) (by omega) (fun _ => rfl) rfl _ _ rfl w5.heap.size rfl HO11.out ⟨a, t⟩ (encL_one _) rfl HV11.out (by rw [HTL.out]; omega) (by simp; omega) ?_; intro A12 c12 w12 ho12 hb12 _hg12; rw [HL1.out] at ho12 ⊢))
              have B12 := hide (HB11.out.trans hb12)
              have HO12 := hide ho12
              clear ho12 hb12 _hg12 hi0 hz0' hzs hzb
              clear o0 o1 o2 o3 o4 o5 v5 l0 l1 r0 r1 r2 r3 r4 r5 y0 y1 y2 y3 y4 y5 hBW hzW
              obtain ⟨hO, hL, hR, hBW, hzW⟩ := HK7.out _ (HBT.out _ B12.out)
              have o0 : w12.cell? ⟨w6.heap.size, 0, none⟩ = some (.string nm) := by {simp [World.cell?, hO]}
              have o1 : w12.cell? ⟨w6.heap.size, 1, none⟩ = some (.int .i64 span) := by {simp [World.cell?, hO]}
              have o2 : w12.cell? ⟨w6.heap.size, 2, none⟩ = some (.int .i64 wd) := by {simp [World.cell?, hO]}
              have o3 : w12.cell? ⟨w6.heap.size, 3, none⟩ = some (.int .i64 dp) := by {simp [World.cell?, hO]}
              have o4 : w12.cell? ⟨w6.heap.size, 4, none⟩ = some (.int .i64 wood) := by {simp [World.cell?, hO]}
              have o5 : w12.cell? ⟨w6.heap.size, 5, none⟩ = some (.slice (some ⟨g6, 0, none⟩) ls.length c6) := by {simp [World.cell?, hO]}
              have v5 : w12.frozen? ⟨w6.heap.size, 5, none⟩ = false := by {simp [World.frozen?, hO]}
              have l0 : w12.cell? ⟨w.heap.size + 1, 0, none⟩ = some (.int .i64 a) := by simp [World.cell?, hL]
              have l1 : w12.cell? ⟨w.heap.size + 1, 1, none⟩ = some (.int .i64 t) := by simp [World.cell?, hL]
              have r0 : w12.cell? ⟨w.heap.size + 2, 0, none⟩ = some (.string ⟨#[]⟩) := by {simp [World.cell?, hR]}
              have y0 : w12.frozen? ⟨w.heap.size + 2, 0, none⟩ = false := by {simp [World.frozen?, hR]}
              have r1 : w12.cell? ⟨w.heap.size + 2, 1, none⟩ = some (.int .i64 0) := by {simp [World.cell?, hR]}
              have y1 : w12.frozen? ⟨w.heap.size + 2, 1, none⟩ = false := by {simp [World.frozen?, hR]}
              have r2 : w12.cell? ⟨w.heap.size + 2, 2, none⟩ = some (.int .i64 0) := by {simp [World.cell?, hR]}
              have y2 : w12.frozen? ⟨w.heap.size + 2, 2, none⟩ = false := by {simp [World.frozen?, hR]}
              have r3 : w12.cell? ⟨w.heap.size + 2, 3, none⟩ = some (.int .i64 0) := by {simp [World.cell?, hR]}
              have y3 : w12.frozen? ⟨w.heap.size + 2, 3, none⟩ = false := by {simp [World.frozen?, hR]}
              have r4 : w12.cell? ⟨w.heap.size + 2, 4, none⟩ = some (.int .i64 0) := by {simp [World.cell?, hR]}
              have y4 : w12.frozen? ⟨w.heap.size + 2, 4, none⟩ = false := by {simp [World.frozen?, hR]}
              have r5 : w12.cell? ⟨w.heap.size + 2, 5, none⟩ = some (.slice none 0 0) := by {simp [World.cell?, hR]}
              have y5 : w12.frozen? ⟨w.heap.size + 2, 5, none⟩ = false := by {simp [World.frozen?, hR]}
              have zq12 : w.heap.size < w12.heap.size := by omega
              have zl12 : w.heap.size + 1 < w12.heap.size := by omega
              have zr12 : w.heap.size + 2 < w12.heap.size := by omega
              have zo12 : w6.heap.size < w12.heap.size := by omega
              clear hO hL hR
              have hz12 := B12.out.size
              have HL2 := hide (show (ls.take (p + 1) ++ [(⟨a, t⟩ : LoadR)]).length + (ls.drop (p + 1)).length = ls.length + 1 by simp only [List.length_append, List.length_singleton]; rw [HTL.out, HDL.out]; omega)
              go_wp2_with (at_builtin; go_loud (refine wpList_appAnyL (ys := ls.drop (p + 1)) rfl _ _ rfl w5.heap.size rfl HO12.out rfl (by have := HDL.out; omega) (slAt_ifL (HSW.out _ (HBT.out _ B12.out)) (by omega)) (by rw [HL2.out]; omega) (by omega) ?_; intro A14 c14 w14 ho14 hb14; rw [HL2.out] at ho14 ⊢; have B14 := hide (B12.out.trans hb14); have HO14 := hide (show OwnL w14 w5.heap.size (.slice A14 (ls.length + 1) c14) (insL ls (p + 1) ⟨a, t⟩) from ho14); obtain ⟨hO, _, hR, hBW14, hzW14⟩ := HK7.out _ (HBT.out _ B14.out); have HT14 := hide hO; clear o0 o1 o2 o3 o4 o5 v5 l0 l1 r0 r1 r2 r3 r4 r5 y0 y1 y2 y3 y4 y5 hBW hzW; have o0 : w14.cell? ⟨w6.heap.size, 0, none⟩ = some (.string nm) := by {simp [World.cell?, hO]}; have o1 : w14.cell? ⟨w6.heap.size, 1, none⟩ = some (.int .i64 span) := by {simp [World.cell?, hO]}; have o2 : w14.cell? ⟨w6.heap.size, 2, none⟩ = some (.int .i64 wd) := by {simp [World.cell?, hO]}; have o3 : w14.cell? ⟨w6.heap.size, 3, none⟩ = some (.int .i64 dp) := by {simp [World.cell?, hO]}; have o4 : w14.cell? ⟨w6.heap.size, 4, none⟩ = some (.int .i64 wood) := by {simp [World.cell?, hO]}; have o5 : w14.cell? ⟨w6.heap.size, 5, none⟩ = some (.slice (some ⟨g6, 0, none⟩) ls.length c6) := by {simp [World.cell?, hO]}; have v5 : w14.frozen? ⟨w6.heap.size, 5, none⟩ = false := by {simp [World.frozen?, hO]}; have r0 : w14.cell? ⟨w.heap.size + 2, 0, none⟩ = some (.string ⟨#[]⟩) := by {simp [World.cell?, hR]}; have y0 : w14.frozen? ⟨w.heap.size + 2, 0, none⟩ = false := by {simp [World.frozen?, hR]}; have r1 : w14.cell? ⟨w.heap.size + 2, 1, none⟩ = some (.int .i64 0) := by {simp [World.cell?, hR]}; have y1 : w14.frozen? ⟨w.heap.size + 2, 1, none⟩ = false := by {simp [World.frozen?, hR]}; have r2 : w14.cell? ⟨w.heap.size + 2, 2, none⟩ = some (.int .i64 0) := by {simp [World.cell?, hR]}; have y2 : w14.frozen? ⟨w.heap.size + 2, 2, none⟩ = false := by {simp [World.frozen?, hR]}; have r3 : w14.cell? ⟨w.heap.size + 2, 3, none⟩ = some (.int .i64 0) := by {simp [World.cell?, hR]}; have y3 : w14.frozen? ⟨w.heap.size + 2, 3, none⟩ = false := by {simp [World.frozen?, hR]}; have r4 : w14.cell? ⟨w.heap.size + 2, 4, none⟩ = some (.int .i64 0) := by {simp [World.cell?, hR]}; have y4 : w14.frozen? ⟨w.heap.size + 2, 4, none⟩ = false := by {simp [World.frozen?, hR]}; have r5 : w14.cell? ⟨w.heap.size + 2, 5, none⟩ = some (.slice none 0 0) := by {simp [World.cell?, hR]}; have y5 : w14.frozen? ⟨w.heap.size + 2, 5, none⟩ = false := by {simp [World.frozen?, hR]}; have hz14 := B14.out.size; clear hO hR ho14 hb14))
              all_goals
                have BW14 := hide (show Below w.heap.size w w14 from ((HBK.out _ B6.out).2.2.2.1).trans (hBW14.mono (by omega)))
                have hq1 : w.heap.size + 2 < w5.heap.size := by omega
                refine bodyPost_ret (v := .tuple #[.agg #[.string nm, .int .i64 span, .int .i64 wd, .int .i64 dp, .int .i64 wood, .slice A14 (ls.length + 1) c14], .int .i64 0]) (by simp [results, Try.results9, go_sem, r0, r1, r2, r3, r4, r5]) rfl ?_
                refine ⟨nm, span, wd, dp, wood, A14, c14, insL ls (p + 1) ⟨a, t⟩, 0, by rw [insL_len (by omega)], HE2.out, hs, by rw [insL_len (by omega)]; omega, ?_, ?_⟩
                · rw [insL_len (by omega)]
                  refine Own.mono (B := w5.heap.size) ?_ (by omega)
                  repeat (first | with_reducible refine own_setOut ?_ (by omega) | with_reducible exact HO14.out | with_reducible exact own_setType HO14.out HT14.out (by decide))
                · have hb := BW14.out
                  exact (by repeat (first | with_reducible exact Below.refl _ _ | with_reducible assumption | (with_reducible refine Below.drew ?_) | (with_reducible refine below_drewN ?_ _) | ((with_reducible refine Below.alloc ?_ ?_ _); rotate_left; (focus (first | omega | (simp; omega) | simp))) | ((with_reducible refine Below.setCell ?_ ?_ _); rotate_left; (focus (first | omega | (simp; omega) | simp))) | (refine Below.trans ?_ (Below.mono (by assumption) (by first | omega | (simp; omega) | simp)))))
end Go.Proofs.Ytklmbgefdopifaa
