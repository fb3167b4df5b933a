/- The program's AddLoad. -/
import Derived.Test.YtklmbgefdopifaaAdJ
namespace Go.Proofs.Ytklmbgefdopifaa
open Go.RowKit

/-- Where a load comes among others: behind all that are not further on. -/
def posL (ls : List LoadR) (a : Int) : Nat := (ls.takeWhile fun x => decide (x.at_ ≤ a)).length
theorem posL_le (ls : List LoadR) (a : Int) : posL ls a ≤ ls.length := (List.takeWhile_sublist _).length_le
theorem posL_at {ls : List LoadR} {a : Int} {k : Nat} (hk : k ≤ ls.length) (h : ∀ j (hj : j < ls.length), j < k → ls[j].at_ ≤ a) (he : ∀ hk' : k < ls.length, a < ls[k].at_) : posL ls a = k := by
  unfold posL
  induction ls generalizing k with
  | nil => simp at hk; simp [hk]
  | cons x ls ih =>
    cases k with
    | zero =>
      have := he (by simp)
      rw [List.takeWhile_cons_of_neg (by simpa using this)]
      rfl
    | succ k =>
      have h0 := h 0 (by simp) (by omega)
      rw [List.takeWhile_cons_of_pos (by simpa using h0), List.length_cons]
      rw [ih (k := k) (by simpa using hk) (fun j hj hjk => h (j + 1) (by simpa using hj) (by omega)) (fun hk' => he (by simpa using hk'))]
/-- What AddLoad answers: the beam's fields, its loads, a code. -/
@[irreducible] noncomputable def addR (nm : ByteArray) (span wd dp wood : Int) (ls : List LoadR) (a t : Int) : (ByteArray × Int × Int × Int × Int) × List LoadR × Int :=
  if vBeam nm span wd dp wood ls then (if ldOk span a t then (if 8 ≤ ls.length then ((⟨#[]⟩, 0, 0, 0, 0), [], 5) else ((nm, span, wd, dp, wood), insL ls (posL ls a) ⟨a, t⟩, 0)) else ((⟨#[]⟩, 0, 0, 0, 0), [], 2)) else ((⟨#[]⟩, 0, 0, 0, 0), [], 1)
section
variable {nm : ByteArray} {span wd dp wood a t : Int} {ls : List LoadR}
theorem addR_1 (h : vBeam nm span wd dp wood ls = false) : addR nm span wd dp wood ls a t = ((⟨#[]⟩, 0, 0, 0, 0), [], 1) := by unfold addR; simp [h]
theorem addR_2 (h : vBeam nm span wd dp wood ls = true) (h2 : ldOk span a t = false) : addR nm span wd dp wood ls a t = ((⟨#[]⟩, 0, 0, 0, 0), [], 2) := by unfold addR; simp [h, h2]
theorem addR_3 (h : vBeam nm span wd dp wood ls = true) (h2 : ldOk span a t = true) (h3 : 8 ≤ ls.length) : addR nm span wd dp wood ls a t = ((⟨#[]⟩, 0, 0, 0, 0), [], 5) := by unfold addR; simp [h, h2, h3]
theorem addR_4 (h : vBeam nm span wd dp wood ls = true) (h2 : ldOk span a t = true) (h3 : ¬ 8 ≤ ls.length) : addR nm span wd dp wood ls a t = ((nm, span, wd, dp, wood), insL ls (posL ls a) ⟨a, t⟩, 0) := by unfold addR; simp [h, h2, h3]
end
/-- A beam with loads of the call's own, and a code, as a result. -/
def BmRes (P : (ByteArray × Int × Int × Int × Int) × List LoadR × Int → Prop) (w : World) (e : Ending) (w' : World) : Prop :=
  ∃ (nm : ByteArray) (x1 x2 x3 x4 : Int) (A : Option Addr) (c : Nat) (ls : List LoadR) (code : Int), e = .returned (.tuple #[.agg #[.string nm, .int .i64 x1, .int .i64 x2, .int .i64 x3, .int .i64 x4, .slice A ls.length c], .int .i64 code]) ∧ P ((nm, x1, x2, x3, x4), ls, code) ∧ nm.size ≤ maxLen ∧ ls.length ≤ 1048576 ∧ OwnL w' w.heap.size (.slice A ls.length c) ls ∧ Below w.heap.size w w'
theorem bmRes_nil {P : (ByteArray × Int × Int × Int × Int) × List LoadR × Int → Prop} {w w' : World} {code : Int} (h : P ((⟨#[]⟩, 0, 0, 0, 0), [], code)) (hb : Below w.heap.size w w') : BmRes P w (.returned (.tuple #[.agg #[.string ⟨#[]⟩, .int .i64 0, .int .i64 0, .int .i64 0, .int .i64 0, .slice none 0 0], .int .i64 code])) w' :=
  ⟨⟨#[]⟩, 0, 0, 0, 0, none, 0, [], code, rfl, h, by simp [maxLen, ByteArray.size], by simp, Own.nil, hb⟩
theorem own_setOut {w : World} {B k j : Nat} {v x : Value} {ls : List LoadR} (h : OwnL w B v ls) (hk : k < B) : OwnL (w.setCell ⟨k, j, none⟩ x) B v ls :=
  Own.kept h (row := some k) ⟨rfl, rfl, rfl, by simp [World.setCell], fun i hi hn => by simp [World.setCell, Array.getElem?_modify, show ¬ k = i from fun e => hn (by rw [e])]⟩ (by
    cases e : v.ownBlock with
    | none => exact .inl rfl
    | some g => exact .inr fun q => by injection q with q; have := (h.lt g e).1; omega)
theorem own_setType {w : World} {B k j : Nat} {v x : Value} {ls : List LoadR} {cs : Array Value} {T : TypeId} {fr : Nat × Nat} (h : OwnL w B v ls) (hk : w.heap[k]? = some (.cells cs T fr)) (hT : T ≠ 34) : OwnL (w.setCell ⟨k, j, none⟩ x) B v ls :=
  Own.kept h (row := some k) ⟨rfl, rfl, rfl, by simp [World.setCell], fun i hi hn => by simp [World.setCell, Array.getElem?_modify, show ¬ k = i from fun e => hn (by rw [e])]⟩ (by
    rcases h.2 with ⟨e, _⟩ | ⟨g, cap, cur, e, _, hc, _⟩
    · left
      rw [e]
      rfl
    · right
      intro q
      rw [e] at q
      injection q with q
      have hq : g = k := q
      subst hq
      rw [hc] at hk
      injection hk with hk
      injection hk with h1 h2 h3
      exact hT h2.symm)
set_option maxRecDepth 100000 in
theorem cloneLoad (ba oa c : Nat) (ls : List LoadR) (w : World) (h : SlAt encLoad 2 w (some ⟨ba, oa, none⟩) ls) (hn : ls.length ≤ 100000) :
    Calls Try.prog 82 #[.slice (some ⟨ba, oa, none⟩) ls.length c] w fun e w' => ∃ (A : Option Addr) (c' : Nat), e = .returned (.slice A ls.length c') ∧ OwnL w' w.heap.size (.slice A ls.length c') ls ∧ Below w.heap.size w w' := by
  obtain ⟨i0, hi0, hz0, hzs, hzb⟩ := info_parts info_LdA
  have q22 : ∀ (w : World) (a : Option Addr) (n c n' c' : Nat), (binOp .eql 28 (.slice a n c) (.slice none n' c')).run Try.prog w = .ok (.bool a.isNone) w := fun w a n c n' c' => Lib.run_eql_slice_nil w _ _ a n c n' c' Try.underlying28
  have H := hide (h.below (w' := w.alloc (.cells #[] 34)) ((Below.refl _ _).alloc (Nat.le_refl _) _))
  have H0 := hide (own_made (enc := encLoad) (sz := 2) (T := 34) w rfl (Nat.le_refl _))
  clear h
  go_enter Try.func82, Try.ntmps82
  go_wp2_with (at_builtin; refine wpList_appAll (sz := 2) (bytes := 16) Try.underlying28 hi0 hz0 hzs hzb rfl (by omega) (by omega) (fun _ => rfl) encL_one (xs := []) rfl _ _ rfl w.heap.size rfl H0.out rfl H.out (by simp; omega) (by simp) ?_; intro A1 c1 w1 ho1 hb1 _hg1; have HO := hide ho1; have HB := hide (Below.trans ((Below.refl w.heap.size w).alloc (Nat.le_refl _) (.cells #[] 34)) hb1); clear ho1 hb1)
  go_ret
  exact ⟨A1, c1, by simp, by simpa using HO.out, HB.out⟩
set_option maxRecDepth 100000 in
theorem implcopyBeam (nm : ByteArray) (x1 x2 x3 x4 : Int) (ba oa c : Nat) (ls : List LoadR) (w : World) (h : SlAt encLoad 2 w (some ⟨ba, oa, none⟩) ls) (hn : ls.length ≤ 100000) :
    Calls Try.prog 47 #[.agg #[.string nm, .int .i64 x1, .int .i64 x2, .int .i64 x3, .int .i64 x4, .slice (some ⟨ba, oa, none⟩) ls.length c]] w fun e w' => ∃ (A : Option Addr) (c' : Nat), e = .returned (.agg #[.string nm, .int .i64 x1, .int .i64 x2, .int .i64 x3, .int .i64 x4, .slice A ls.length c']) ∧ OwnL w' w.heap.size (.slice A ls.length c') ls ∧ Below w.heap.size w w' := by
  have H := hide (h.below (w' := (w.alloc (.cells #[.string nm, .int .i64 x1, .int .i64 x2, .int .i64 x3, .int .i64 x4, .slice (some ⟨ba, oa, none⟩) ls.length c] 30)).alloc (.cells #[.string ⟨#[]⟩, .int .i64 0, .int .i64 0, .int .i64 0, .int .i64 0, .slice none 0 0] 30)) (by repeat (first | with_reducible exact Below.refl _ _ | with_reducible assumption | (with_reducible refine Below.drew ?_) | (with_reducible refine below_drewN ?_ _) | ((with_reducible refine Below.alloc ?_ ?_ _); rotate_left; (focus (first | omega | (simp; omega) | simp))) | ((with_reducible refine Below.setCell ?_ ?_ _); rotate_left; (focus (first | omega | (simp; omega) | simp))) | (refine Below.trans ?_ (Below.mono (by assumption) (by first | omega | (simp; omega) | simp))))))
  clear h
  go_enter Try.func47, Try.ntmps47
  go_wp2_with fail
  refine (cloneLoad ba oa c ls _ H.out hn).mono ?_
  rintro e w1 ⟨A1, c1, rfl, ho1, hb1⟩
  have hQ : w1.heap[w.heap.size]? = some (.cells #[.string nm, .int .i64 x1, .int .i64 x2, .int .i64 x3, .int .i64 x4, .slice (some ⟨ba, oa, none⟩) ls.length c] 30 (0, 0)) := (hb1.block w.heap.size (by simp; omega)).trans ((heap_alloc_old _ _ (by simp)).trans (heap_alloc_new w _))
  have hR : w1.heap[w.heap.size + 1]? = some (.cells #[.string ⟨#[]⟩, .int .i64 0, .int .i64 0, .int .i64 0, .int .i64 0, .slice none 0 0] 30 (0, 0)) := (hb1.block (w.heap.size + 1) (by simp)).trans (by simpa using heap_alloc_new (w.alloc (.cells #[.string nm, .int .i64 x1, .int .i64 x2, .int .i64 x3, .int .i64 x4, .slice (some ⟨ba, oa, none⟩) ls.length c] 30)) (.cells #[.string ⟨#[]⟩, .int .i64 0, .int .i64 0, .int .i64 0, .int .i64 0, .slice none 0 0] 30))
  have HB1 := hide (show Below w.heap.size w w1 from (show Below w.heap.size w _ from (by repeat (first | with_reducible exact Below.refl _ _ | with_reducible assumption | (with_reducible refine Below.drew ?_) | (with_reducible refine below_drewN ?_ _) | ((with_reducible refine Below.alloc ?_ ?_ _); rotate_left; (focus (first | omega | (simp; omega) | simp))) | ((with_reducible refine Below.setCell ?_ ?_ _); rotate_left; (focus (first | omega | (simp; omega) | simp))) | (refine Below.trans ?_ (Below.mono (by assumption) (by first | omega | (simp; omega) | simp)))))).trans (hb1.mono (by simp; omega)))
  have hz1 : w.heap.size + 2 ≤ w1.heap.size := by have := hb1.size; simp at this; omega
  have HO1 := hide (show OwnL w1 (w.heap.size + 2) (.slice A1 ls.length c1) ls from ho1.mono (by simp))
  have g0 : w1.cell? ⟨w.heap.size, 0, none⟩ = some (.string nm) := by simp [World.cell?, hQ]
  have g1 : w1.cell? ⟨w.heap.size, 1, none⟩ = some (.int .i64 x1) := by simp [World.cell?, hQ]
  have g2 : w1.cell? ⟨w.heap.size, 2, none⟩ = some (.int .i64 x2) := by simp [World.cell?, hQ]
  have g3 : w1.cell? ⟨w.heap.size, 3, none⟩ = some (.int .i64 x3) := by simp [World.cell?, hQ]
  have g4 : w1.cell? ⟨w.heap.size, 4, none⟩ = some (.int .i64 x4) := by simp [World.cell?, hQ]
  have g5 : w1.cell? ⟨w.heap.size, 5, none⟩ = some (.slice (some ⟨ba, oa, none⟩) ls.length c) := by simp [World.cell?, hQ]
  have f5 : w1.frozen? ⟨w.heap.size, 5, none⟩ = false := by simp [World.frozen?, hQ]
  have r0 : w1.cell? ⟨w.heap.size + 1, 0, none⟩ = some (.string ⟨#[]⟩) := by simp [World.cell?, hR]
  have r1 : w1.cell? ⟨w.heap.size + 1, 1, none⟩ = some (.int .i64 0) := by simp [World.cell?, hR]
  have r2 : w1.cell? ⟨w.heap.size + 1, 2, none⟩ = some (.int .i64 0) := by simp [World.cell?, hR]
  have r3 : w1.cell? ⟨w.heap.size + 1, 3, none⟩ = some (.int .i64 0) := by simp [World.cell?, hR]
  have r4 : w1.cell? ⟨w.heap.size + 1, 4, none⟩ = some (.int .i64 0) := by simp [World.cell?, hR]
  have r5 : w1.cell? ⟨w.heap.size + 1, 5, none⟩ = some (.slice none 0 0) := by simp [World.cell?, hR]
  have z0 : ∀ j, w1.frozen? ⟨w.heap.size + 1, j, none⟩ = false := fun j => by simp [World.frozen?, hR]
  have y0 := z0 0
  have y1 := z0 1
  have y2 := z0 2
  have y3 := z0 3
  have y4 := z0 4
  have y5 := z0 5
  clear hQ hR ho1 hb1 H z0
  go_wp2_with fail
  refine bodyPost_ret (v := .agg #[.string nm, .int .i64 x1, .int .i64 x2, .int .i64 x3, .int .i64 x4, .slice A1 ls.length c1]) (by simp [results, Try.results47, go_sem, r0, r1, r2, r3, r4, r5]) rfl ⟨A1, c1, rfl, ?_, ?_⟩
  · refine Own.mono (B := w.heap.size + 2) ?_ (by omega)
    repeat (first | with_reducible exact HO1.out | with_reducible refine own_setOut ?_ (by omega))
  · have hb := HB1.out
    exact (by repeat (first | with_reducible exact Below.refl _ _ | with_reducible assumption | (with_reducible refine Below.drew ?_) | (with_reducible refine below_drewN ?_ _) | ((with_reducible refine Below.alloc ?_ ?_ _); rotate_left; (focus (first | omega | (simp; omega) | simp))) | ((with_reducible refine Below.setCell ?_ ?_ _); rotate_left; (focus (first | omega | (simp; omega) | simp))) | (refine Below.trans ?_ (Below.mono (by assumption) (by first | omega | (simp; omega) | simp)))))
set_option maxRecDepth 100000 in
set_option maxHeartbeats 4000000 in
theorem implAddLoad (nm : ByteArray) (span wd dp wood : Int) (ba oa c : Nat) (ls : List LoadR) (a t : Int) (w : World) (h : SlAt encLoad 2 w (some ⟨ba, oa, none⟩) ls) (hn : ls.length ≤ 1048576) (hs : nm.size ≤ maxLen) :
    Calls Try.prog 12 #[.agg #[.string nm, .int .i64 span, .int .i64 wd, .int .i64 dp, .int .i64 wood, .slice (some ⟨ba, oa, none⟩) ls.length c], .agg #[.int .i64 a, .int .i64 t]] w (BmRes (fun r => addR nm span wd dp wood ls a t = r) w) := by
  have HX := hide h
  clear h
  have HBK := hide (fun (W : World) (h : Below (w.heap.size + 3) (((w.alloc (.cells #[.string nm, .int .i64 span, .int .i64 wd, .int .i64 dp, .int .i64 wood, .slice (some ⟨ba, oa, none⟩) ls.length c] 30)).alloc (.cells #[.int .i64 a, .int .i64 t] 34)).alloc (.cells #[.string ⟨#[]⟩, .int .i64 0, .int .i64 0, .int .i64 0, .int .i64 0, .slice none 0 0] 30)) W) => (show W.heap[w.heap.size]? = some (.cells #[.string nm, .int .i64 span, .int .i64 wd, .int .i64 dp, .int .i64 wood, .slice (some ⟨ba, oa, none⟩) ls.length c] 30 (0, 0)) ∧ W.heap[w.heap.size + 1]? = some (.cells #[.int .i64 a, .int .i64 t] 34 (0, 0)) ∧ W.heap[w.heap.size + 2]? = some (.cells #[.string ⟨#[]⟩, .int .i64 0, .int .i64 0, .int .i64 0, .int .i64 0, .slice none 0 0] 30 (0, 0)) ∧ Below w.heap.size w W ∧ w.heap.size + 3 ≤ W.heap.size from by
    have z1 : (w.alloc (.cells #[.string nm, .int .i64 span, .int .i64 wd, .int .i64 dp, .int .i64 wood, .slice (some ⟨ba, oa, none⟩) ls.length c] 30)).heap.size = w.heap.size + 1 := by simp
    have z2 : ((w.alloc (.cells #[.string nm, .int .i64 span, .int .i64 wd, .int .i64 dp, .int .i64 wood, .slice (some ⟨ba, oa, none⟩) ls.length c] 30)).alloc (.cells #[.int .i64 a, .int .i64 t] 34)).heap.size = w.heap.size + 2 := by simp
    have z3 : (((w.alloc (.cells #[.string nm, .int .i64 span, .int .i64 wd, .int .i64 dp, .int .i64 wood, .slice (some ⟨ba, oa, none⟩) ls.length c] 30)).alloc (.cells #[.int .i64 a, .int .i64 t] 34)).alloc (.cells #[.string ⟨#[]⟩, .int .i64 0, .int .i64 0, .int .i64 0, .int .i64 0, .slice none 0 0] 30)).heap.size = w.heap.size + 3 := by simp
    refine ⟨(h.block _ (by omega)).trans ((heap_alloc_old _ _ (by omega)).trans ((heap_alloc_old _ _ (by omega)).trans (heap_alloc_new w _))), (h.block _ (by omega)).trans ((heap_alloc_old _ _ (by omega)).trans ?_), (h.block _ (by omega)).trans ?_, (show Below w.heap.size w (((w.alloc (.cells #[.string nm, .int .i64 span, .int .i64 wd, .int .i64 dp, .int .i64 wood, .slice (some ⟨ba, oa, none⟩) ls.length c] 30)).alloc (.cells #[.int .i64 a, .int .i64 t] 34)).alloc (.cells #[.string ⟨#[]⟩, .int .i64 0, .int .i64 0, .int .i64 0, .int .i64 0, .slice none 0 0] 30)) from (by repeat (first | with_reducible exact Below.refl _ _ | with_reducible assumption | (with_reducible refine Below.drew ?_) | (with_reducible refine below_drewN ?_ _) | ((with_reducible refine Below.alloc ?_ ?_ _); rotate_left; (focus (first | omega | (simp; omega) | simp))) | ((with_reducible refine Below.setCell ?_ ?_ _); rotate_left; (focus (first | omega | (simp; omega) | simp))) | (refine Below.trans ?_ (Below.mono (by assumption) (by first | omega | (simp; omega) | simp)))))).trans (h.mono (by omega)), by have := h.size; omega⟩
    · have q := heap_alloc_new (w.alloc (.cells #[.string nm, .int .i64 span, .int .i64 wd, .int .i64 dp, .int .i64 wood, .slice (some ⟨ba, oa, none⟩) ls.length c] 30)) (.cells #[.int .i64 a, .int .i64 t] 34)
      rw [z1] at q
      exact q
    · have q := heap_alloc_new ((w.alloc (.cells #[.string nm, .int .i64 span, .int .i64 wd, .int .i64 dp, .int .i64 wood, .slice (some ⟨ba, oa, none⟩) ls.length c] 30)).alloc (.cells #[.int .i64 a, .int .i64 t] 34)) (.cells #[.string ⟨#[]⟩, .int .i64 0, .int .i64 0, .int .i64 0, .int .i64 0, .slice none 0 0] 30)
      rw [z2] at q
      exact q))
  have HXW := hide (fun (W : World) (h : Below (w.heap.size + 3) (((w.alloc (.cells #[.string nm, .int .i64 span, .int .i64 wd, .int .i64 dp, .int .i64 wood, .slice (some ⟨ba, oa, none⟩) ls.length c] 30)).alloc (.cells #[.int .i64 a, .int .i64 t] 34)).alloc (.cells #[.string ⟨#[]⟩, .int .i64 0, .int .i64 0, .int .i64 0, .int .i64 0, .slice none 0 0] 30)) W) => (show SlAt encLoad 2 W (some ⟨ba, oa, none⟩) ls from HX.out.below ((HBK.out W h).2.2.2.1)))
  have B0 := hide (show Below (w.heap.size + 3) (((w.alloc (.cells #[.string nm, .int .i64 span, .int .i64 wd, .int .i64 dp, .int .i64 wood, .slice (some ⟨ba, oa, none⟩) ls.length c] 30)).alloc (.cells #[.int .i64 a, .int .i64 t] 34)).alloc (.cells #[.string ⟨#[]⟩, .int .i64 0, .int .i64 0, .int .i64 0, .int .i64 0, .slice none 0 0] 30)) (((w.alloc (.cells #[.string nm, .int .i64 span, .int .i64 wd, .int .i64 dp, .int .i64 wood, .slice (some ⟨ba, oa, none⟩) ls.length c] 30)).alloc (.cells #[.int .i64 a, .int .i64 t] 34)).alloc (.cells #[.string ⟨#[]⟩, .int .i64 0, .int .i64 0, .int .i64 0, .int .i64 0, .slice none 0 0] 30)) from Below.refl _ _)
  have z0 : (((w.alloc (.cells #[.string nm, .int .i64 span, .int .i64 wd, .int .i64 dp, .int .i64 wood, .slice (some ⟨ba, oa, none⟩) ls.length c] 30)).alloc (.cells #[.int .i64 a, .int .i64 t] 34)).alloc (.cells #[.string ⟨#[]⟩, .int .i64 0, .int .i64 0, .int .i64 0, .int .i64 0, .slice none 0 0] 30)).heap.size = w.heap.size + 3 := by simp
  go_enter Try.func12, Try.ntmps12
  go_wp2_with fail
  refine (implValidBeam nm span wd dp wood (some ⟨ba, oa, none⟩) c ls _ (HXW.out _ B0.out) hn hs).mono ?_
  rintro e w1 ⟨rfl, hb1⟩
  have B1 := hide (show Below (w.heap.size + 3) (((w.alloc (.cells #[.string nm, .int .i64 span, .int .i64 wd, .int .i64 dp, .int .i64 wood, .slice (some ⟨ba, oa, none⟩) ls.length c] 30)).alloc (.cells #[.int .i64 a, .int .i64 t] 34)).alloc (.cells #[.string ⟨#[]⟩, .int .i64 0, .int .i64 0, .int .i64 0, .int .i64 0, .slice none 0 0] 30)) w1 from hb1.mono (by omega))
  clear hb1
  cases hv : vBeam nm span wd dp wood ls
  · have e := hide (addR_1 (a := a) (t := t) hv)
    obtain ⟨hQ, hL, hR, hBW, hzW⟩ := HBK.out _ B1.out
    have g0 : w1.cell? ⟨w.heap.size, 0, none⟩ = some (.string nm) := by simp [World.cell?, hQ]
    have g1 : w1.cell? ⟨w.heap.size, 1, none⟩ = some (.int .i64 span) := by simp [World.cell?, hQ]
    have g2 : w1.cell? ⟨w.heap.size, 2, none⟩ = some (.int .i64 wd) := by simp [World.cell?, hQ]
    have g3 : w1.cell? ⟨w.heap.size, 3, none⟩ = some (.int .i64 dp) := by simp [World.cell?, hQ]
    have g4 : w1.cell? ⟨w.heap.size, 4, none⟩ = some (.int .i64 wood) := by simp [World.cell?, hQ]
    have g5 : w1.cell? ⟨w.heap.size, 5, none⟩ = some (.slice (some ⟨ba, oa, none⟩) ls.length c) := by simp [World.cell?, hQ]
    have l0 : w1.cell? ⟨w.heap.size + 1, 0, none⟩ = some (.int .i64 a) := by simp [World.cell?, hL]
    have l1 : w1.cell? ⟨w.heap.size + 1, 1, none⟩ = some (.int .i64 t) := by simp [World.cell?, hL]
    have r0 : w1.cell? ⟨w.heap.size + 2, 0, none⟩ = some (.string ⟨#[]⟩) := by simp [World.cell?, hR]
    have y0 : w1.frozen? ⟨w.heap.size + 2, 0, none⟩ = false := by simp [World.frozen?, hR]
    have r1 : w1.cell? ⟨w.heap.size + 2, 1, none⟩ = some (.int .i64 0) := by simp [World.cell?, hR]
    have y1 : w1.frozen? ⟨w.heap.size + 2, 1, none⟩ = false := by simp [World.frozen?, hR]
    have r2 : w1.cell? ⟨w.heap.size + 2, 2, none⟩ = some (.int .i64 0) := by simp [World.cell?, hR]
    have y2 : w1.frozen? ⟨w.heap.size + 2, 2, none⟩ = false := by simp [World.frozen?, hR]
    have r3 : w1.cell? ⟨w.heap.size + 2, 3, none⟩ = some (.int .i64 0) := by simp [World.cell?, hR]
    have y3 : w1.frozen? ⟨w.heap.size + 2, 3, none⟩ = false := by simp [World.frozen?, hR]
    have r4 : w1.cell? ⟨w.heap.size + 2, 4, none⟩ = some (.int .i64 0) := by simp [World.cell?, hR]
    have y4 : w1.frozen? ⟨w.heap.size + 2, 4, none⟩ = false := by simp [World.frozen?, hR]
    have r5 : w1.cell? ⟨w.heap.size + 2, 5, none⟩ = some (.slice none 0 0) := by simp [World.cell?, hR]
    have y5 : w1.frozen? ⟨w.heap.size + 2, 5, none⟩ = false := by simp [World.frozen?, hR]
    have zq1 : w.heap.size < w1.heap.size := by omega
    have zl1 : w.heap.size + 1 < w1.heap.size := by omega
    have zr1 : w.heap.size + 2 < w1.heap.size := by omega
    clear hQ hL hR
    go_wp2_with fail
    refine bodyPost_ret (v := .tuple #[.agg #[.string ⟨#[]⟩, .int .i64 0, .int .i64 0, .int .i64 0, .int .i64 0, .slice none 0 0], .int .i64 1]) (by simp [results, Try.results12, go_sem, r0, r1, r2, r3, r4, r5]) rfl ?_
    exact bmRes_nil e.out (by repeat (first | with_reducible exact Below.refl _ _ | with_reducible assumption | (with_reducible refine Below.drew ?_) | (with_reducible refine below_drewN ?_ _) | ((with_reducible refine Below.alloc ?_ ?_ _); rotate_left; (focus (first | omega | (simp; omega) | simp))) | ((with_reducible refine Below.setCell ?_ ?_ _); rotate_left; (focus (first | omega | (simp; omega) | simp))) | (refine Below.trans ?_ (Below.mono (by assumption) (by first | omega | (simp; omega) | simp)))))
  generalize hW0 : (((w.alloc (.cells #[.string nm, .int .i64 span, .int .i64 wd, .int .i64 dp, .int .i64 wood, .slice (some ⟨ba, oa, none⟩) ls.length c] 30)).alloc (.cells #[.int .i64 a, .int .i64 t] 34)).alloc (.cells #[.string ⟨#[]⟩, .int .i64 0, .int .i64 0, .int .i64 0, .int .i64 0, .slice none 0 0] 30)) = W0 at *
  · obtain ⟨hQ, hL, hR, hBW, hzW⟩ := HBK.out _ B1.out
    have g0 : w1.cell? ⟨w.heap.size, 0, none⟩ = some (.string nm) := by simp [World.cell?, hQ]
    have g1 : w1.cell? ⟨w.heap.size, 1, none⟩ = some (.int .i64 span) := by simp [World.cell?, hQ]
    have g2 : w1.cell? ⟨w.heap.size, 2, none⟩ = some (.int .i64 wd) := by simp [World.cell?, hQ]
    have g3 : w1.cell? ⟨w.heap.size, 3, none⟩ = some (.int .i64 dp) := by simp [World.cell?, hQ]
    have g4 : w1.cell? ⟨w.heap.size, 4, none⟩ = some (.int .i64 wood) := by simp [World.cell?, hQ]
    have g5 : w1.cell? ⟨w.heap.size, 5, none⟩ = some (.slice (some ⟨ba, oa, none⟩) ls.length c) := by simp [World.cell?, hQ]
    have l0 : w1.cell? ⟨w.heap.size + 1, 0, none⟩ = some (.int .i64 a) := by simp [World.cell?, hL]
    have l1 : w1.cell? ⟨w.heap.size + 1, 1, none⟩ = some (.int .i64 t) := by simp [World.cell?, hL]
    have r0 : w1.cell? ⟨w.heap.size + 2, 0, none⟩ = some (.string ⟨#[]⟩) := by simp [World.cell?, hR]
    have y0 : w1.frozen? ⟨w.heap.size + 2, 0, none⟩ = false := by simp [World.frozen?, hR]
    have r1 : w1.cell? ⟨w.heap.size + 2, 1, none⟩ = some (.int .i64 0) := by simp [World.cell?, hR]
    have y1 : w1.frozen? ⟨w.heap.size + 2, 1, none⟩ = false := by simp [World.frozen?, hR]
    have r2 : w1.cell? ⟨w.heap.size + 2, 2, none⟩ = some (.int .i64 0) := by simp [World.cell?, hR]
    have y2 : w1.frozen? ⟨w.heap.size + 2, 2, none⟩ = false := by simp [World.frozen?, hR]
    have r3 : w1.cell? ⟨w.heap.size + 2, 3, none⟩ = some (.int .i64 0) := by simp [World.cell?, hR]
    have y3 : w1.frozen? ⟨w.heap.size + 2, 3, none⟩ = false := by simp [World.frozen?, hR]
    have r4 : w1.cell? ⟨w.heap.size + 2, 4, none⟩ = some (.int .i64 0) := by simp [World.cell?, hR]
    have y4 : w1.frozen? ⟨w.heap.size + 2, 4, none⟩ = false := by simp [World.frozen?, hR]
    have r5 : w1.cell? ⟨w.heap.size + 2, 5, none⟩ = some (.slice none 0 0) := by simp [World.cell?, hR]
    have y5 : w1.frozen? ⟨w.heap.size + 2, 5, none⟩ = false := by simp [World.frozen?, hR]
    have zq1 : w.heap.size < w1.heap.size := by omega
    have zl1 : w.heap.size + 1 < w1.heap.size := by omega
    have zr1 : w.heap.size + 2 < w1.heap.size := by omega
    clear hQ hL hR
    go_wp2_with fail
    refine (implisLoad nm span wd dp wood (some ⟨ba, oa, none⟩) ls.length c a t _).mono ?_
    rintro e w2 ⟨rfl, hb2⟩
    have B2 := hide (B1.out.trans (hb2.mono (by omega)))
    clear hb2
    clear g0 g1 g2 g3 g4 g5 l0 l1 r0 r1 r2 r3 r4 r5 y0 y1 y2 y3 y4 y5 hBW hzW
    cases hl : ldOk span a t
    · have e := hide (addR_2 hv hl)
      obtain ⟨hQ, hL, hR, hBW, hzW⟩ := HBK.out _ B2.out
      have g0 : w2.cell? ⟨w.heap.size, 0, none⟩ = some (.string nm) := by simp [World.cell?, hQ]
      have g1 : w2.cell? ⟨w.heap.size, 1, none⟩ = some (.int .i64 span) := by simp [World.cell?, hQ]
      have g2 : w2.cell? ⟨w.heap.size, 2, none⟩ = some (.int .i64 wd) := by simp [World.cell?, hQ]
      have g3 : w2.cell? ⟨w.heap.size, 3, none⟩ = some (.int .i64 dp) := by simp [World.cell?, hQ]
      have g4 : w2.cell? ⟨w.heap.size, 4, none⟩ = some (.int .i64 wood) := by simp [World.cell?, hQ]
      have g5 : w2.cell? ⟨w.heap.size, 5, none⟩ = some (.slice (some ⟨ba, oa, none⟩) ls.length c) := by simp [World.cell?, hQ]
      have l0 : w2.cell? ⟨w.heap.size + 1, 0, none⟩ = some (.int .i64 a) := by simp [World.cell?, hL]
      have l1 : w2.cell? ⟨w.heap.size + 1, 1, none⟩ = some (.int .i64 t) := by simp [World.cell?, hL]
      have r0 : w2.cell? ⟨w.heap.size + 2, 0, none⟩ = some (.string ⟨#[]⟩) := by simp [World.cell?, hR]
      have y0 : w2.frozen? ⟨w.heap.size + 2, 0, none⟩ = false := by simp [World.frozen?, hR]
      have r1 : w2.cell? ⟨w.heap.size + 2, 1, none⟩ = some (.int .i64 0) := by simp [World.cell?, hR]
      have y1 : w2.frozen? ⟨w.heap.size + 2, 1, none⟩ = false := by simp [World.frozen?, hR]
      have r2 : w2.cell? ⟨w.heap.size + 2, 2, none⟩ = some (.int .i64 0) := by simp [World.cell?, hR]
      have y2 : w2.frozen? ⟨w.heap.size + 2, 2, none⟩ = false := by simp [World.frozen?, hR]
      have r3 : w2.cell? ⟨w.heap.size + 2, 3, none⟩ = some (.int .i64 0) := by simp [World.cell?, hR]
      have y3 : w2.frozen? ⟨w.heap.size + 2, 3, none⟩ = false := by simp [World.frozen?, hR]
      have r4 : w2.cell? ⟨w.heap.size + 2, 4, none⟩ = some (.int .i64 0) := by simp [World.cell?, hR]
      have y4 : w2.frozen? ⟨w.heap.size + 2, 4, none⟩ = false := by simp [World.frozen?, hR]
      have r5 : w2.cell? ⟨w.heap.size + 2, 5, none⟩ = some (.slice none 0 0) := by simp [World.cell?, hR]
      have y5 : w2.frozen? ⟨w.heap.size + 2, 5, none⟩ = false := by simp [World.frozen?, hR]
      have zq2 : w.heap.size < w2.heap.size := by omega
      have zl2 : w.heap.size + 1 < w2.heap.size := by omega
      have zr2 : w.heap.size + 2 < w2.heap.size := by omega
      clear hQ hL hR
      go_wp2_with fail
      refine bodyPost_ret (v := .tuple #[.agg #[.string ⟨#[]⟩, .int .i64 0, .int .i64 0, .int .i64 0, .int .i64 0, .slice none 0 0], .int .i64 2]) (by simp [results, Try.results12, go_sem, r0, r1, r2, r3, r4, r5]) rfl ?_
      exact bmRes_nil e.out (by repeat (first | with_reducible exact Below.refl _ _ | with_reducible assumption | (with_reducible refine Below.drew ?_) | (with_reducible refine below_drewN ?_ _) | ((with_reducible refine Below.alloc ?_ ?_ _); rotate_left; (focus (first | omega | (simp; omega) | simp))) | ((with_reducible refine Below.setCell ?_ ?_ _); rotate_left; (focus (first | omega | (simp; omega) | simp))) | (refine Below.trans ?_ (Below.mono (by assumption) (by first | omega | (simp; omega) | simp)))))
    by_cases h8 : 8 ≤ ls.length
    · have e := hide (addR_3 hv hl h8)
      obtain ⟨hQ, hL, hR, hBW, hzW⟩ := HBK.out _ B2.out
      have g0 : w2.cell? ⟨w.heap.size, 0, none⟩ = some (.string nm) := by simp [World.cell?, hQ]
      have g1 : w2.cell? ⟨w.heap.size, 1, none⟩ = some (.int .i64 span) := by simp [World.cell?, hQ]
      have g2 : w2.cell? ⟨w.heap.size, 2, none⟩ = some (.int .i64 wd) := by simp [World.cell?, hQ]
      have g3 : w2.cell? ⟨w.heap.size, 3, none⟩ = some (.int .i64 dp) := by simp [World.cell?, hQ]
      have g4 : w2.cell? ⟨w.heap.size, 4, none⟩ = some (.int .i64 wood) := by simp [World.cell?, hQ]
      have g5 : w2.cell? ⟨w.heap.size, 5, none⟩ = some (.slice (some ⟨ba, oa, none⟩) ls.length c) := by simp [World.cell?, hQ]
      have l0 : w2.cell? ⟨w.heap.size + 1, 0, none⟩ = some (.int .i64 a) := by simp [World.cell?, hL]
      have l1 : w2.cell? ⟨w.heap.size + 1, 1, none⟩ = some (.int .i64 t) := by simp [World.cell?, hL]
      have r0 : w2.cell? ⟨w.heap.size + 2, 0, none⟩ = some (.string ⟨#[]⟩) := by simp [World.cell?, hR]
      have y0 : w2.frozen? ⟨w.heap.size + 2, 0, none⟩ = false := by simp [World.frozen?, hR]
      have r1 : w2.cell? ⟨w.heap.size + 2, 1, none⟩ = some (.int .i64 0) := by simp [World.cell?, hR]
      have y1 : w2.frozen? ⟨w.heap.size + 2, 1, none⟩ = false := by simp [World.frozen?, hR]
      have r2 : w2.cell? ⟨w.heap.size + 2, 2, none⟩ = some (.int .i64 0) := by simp [World.cell?, hR]
      have y2 : w2.frozen? ⟨w.heap.size + 2, 2, none⟩ = false := by simp [World.frozen?, hR]
      have r3 : w2.cell? ⟨w.heap.size + 2, 3, none⟩ = some (.int .i64 0) := by simp [World.cell?, hR]
      have y3 : w2.frozen? ⟨w.heap.size + 2, 3, none⟩ = false := by simp [World.frozen?, hR]
      have r4 : w2.cell? ⟨w.heap.size + 2, 4, none⟩ = some (.int .i64 0) := by simp [World.cell?, hR]
      have y4 : w2.frozen? ⟨w.heap.size + 2, 4, none⟩ = false := by simp [World.frozen?, hR]
      have r5 : w2.cell? ⟨w.heap.size + 2, 5, none⟩ = some (.slice none 0 0) := by simp [World.cell?, hR]
      have y5 : w2.frozen? ⟨w.heap.size + 2, 5, none⟩ = false := by simp [World.frozen?, hR]
      have zq2 : w.heap.size < w2.heap.size := by omega
      have zl2 : w.heap.size + 1 < w2.heap.size := by omega
      have zr2 : w.heap.size + 2 < w2.heap.size := by omega
      clear hQ hL hR
      have d8 : decide ((8 : Int) ≤ (ls.length : Int)) = true := by simp; omega
      clear h8
      go_wp2_with fail
      refine bodyPost_ret (v := .tuple #[.agg #[.string ⟨#[]⟩, .int .i64 0, .int .i64 0, .int .i64 0, .int .i64 0, .slice none 0 0], .int .i64 5]) (by simp [results, Try.results12, go_sem, r0, r1, r2, r3, r4, r5]) rfl ?_
      exact bmRes_nil e.out (by repeat (first | with_reducible exact Below.refl _ _ | with_reducible assumption | (with_reducible refine Below.drew ?_) | (with_reducible refine below_drewN ?_ _) | ((with_reducible refine Below.alloc ?_ ?_ _); rotate_left; (focus (first | omega | (simp; omega) | simp))) | ((with_reducible refine Below.setCell ?_ ?_ _); rotate_left; (focus (first | omega | (simp; omega) | simp))) | (refine Below.trans ?_ (Below.mono (by assumption) (by first | omega | (simp; omega) | simp)))))
    · have e := hide (addR_4 hv hl h8)
      have d8 : decide ((8 : Int) ≤ (ls.length : Int)) = false := by simp; omega
      obtain ⟨hQ, hL, hR, hBW, hzW⟩ := HBK.out _ B2.out
      have g0 : w2.cell? ⟨w.heap.size, 0, none⟩ = some (.string nm) := by simp [World.cell?, hQ]
      have g1 : w2.cell? ⟨w.heap.size, 1, none⟩ = some (.int .i64 span) := by simp [World.cell?, hQ]
      have g2 : w2.cell? ⟨w.heap.size, 2, none⟩ = some (.int .i64 wd) := by simp [World.cell?, hQ]
      have g3 : w2.cell? ⟨w.heap.size, 3, none⟩ = some (.int .i64 dp) := by simp [World.cell?, hQ]
      have g4 : w2.cell? ⟨w.heap.size, 4, none⟩ = some (.int .i64 wood) := by simp [World.cell?, hQ]
      have g5 : w2.cell? ⟨w.heap.size, 5, none⟩ = some (.slice (some ⟨ba, oa, none⟩) ls.length c) := by simp [World.cell?, hQ]
      have l0 : w2.cell? ⟨w.heap.size + 1, 0, none⟩ = some (.int .i64 a) := by simp [World.cell?, hL]
      have l1 : w2.cell? ⟨w.heap.size + 1, 1, none⟩ = some (.int .i64 t) := by simp [World.cell?, hL]
      have r0 : w2.cell? ⟨w.heap.size + 2, 0, none⟩ = some (.string ⟨#[]⟩) := by simp [World.cell?, hR]
      have y0 : w2.frozen? ⟨w.heap.size + 2, 0, none⟩ = false := by simp [World.frozen?, hR]
      have r1 : w2.cell? ⟨w.heap.size + 2, 1, none⟩ = some (.int .i64 0) := by simp [World.cell?, hR]
      have y1 : w2.frozen? ⟨w.heap.size + 2, 1, none⟩ = false := by simp [World.frozen?, hR]
      have r2 : w2.cell? ⟨w.heap.size + 2, 2, none⟩ = some (.int .i64 0) := by simp [World.cell?, hR]
      have y2 : w2.frozen? ⟨w.heap.size + 2, 2, none⟩ = false := by simp [World.frozen?, hR]
      have r3 : w2.cell? ⟨w.heap.size + 2, 3, none⟩ = some (.int .i64 0) := by simp [World.cell?, hR]
      have y3 : w2.frozen? ⟨w.heap.size + 2, 3, none⟩ = false := by simp [World.frozen?, hR]
      have r4 : w2.cell? ⟨w.heap.size + 2, 4, none⟩ = some (.int .i64 0) := by simp [World.cell?, hR]
      have y4 : w2.frozen? ⟨w.heap.size + 2, 4, none⟩ = false := by simp [World.frozen?, hR]
      have r5 : w2.cell? ⟨w.heap.size + 2, 5, none⟩ = some (.slice none 0 0) := by simp [World.cell?, hR]
      have y5 : w2.frozen? ⟨w.heap.size + 2, 5, none⟩ = false := by simp [World.frozen?, hR]
      have zq2 : w.heap.size < w2.heap.size := by omega
      have zl2 : w.heap.size + 1 < w2.heap.size := by omega
      have zr2 : w.heap.size + 2 < w2.heap.size := by omega
      clear hQ hL hR
      go_wp2_with fail
      clear g0 g1 g2 g3 g4 g5 l0 l1 r0 r1 r2 r3 r4 r5 y0 y1 y2 y3 y4 y5 hBW hzW
      clear d8
      go_loopw [6] (fun v wr => ∃ k : Nat, v = .int .i64 k ∧ k ≤ ls.length ∧ Hid (∀ j (hj : j < ls.length), j < k → ls[j].at_ ≤ a) ∧ Hid (Below (w.heap.size + 3) W0 wr)) (fun v _ => ls.length - (intOf v).toNat)
      case atStart => exact ⟨0, rfl, by omega, hide (fun j _ h => by omega), B2⟩
      case round =>
        obtain ⟨k, rfl, hk, HJ, HB⟩ := hrel
        obtain ⟨hQ, hL, hR, hBW, hzW⟩ := HBK.out _ HB.out
        have g0 : wr.cell? ⟨w.heap.size, 0, none⟩ = some (.string nm) := by simp [World.cell?, hQ]
        have g1 : wr.cell? ⟨w.heap.size, 1, none⟩ = some (.int .i64 span) := by simp [World.cell?, hQ]
        have g2 : wr.cell? ⟨w.heap.size, 2, none⟩ = some (.int .i64 wd) := by simp [World.cell?, hQ]
        have g3 : wr.cell? ⟨w.heap.size, 3, none⟩ = some (.int .i64 dp) := by simp [World.cell?, hQ]
        have g4 : wr.cell? ⟨w.heap.size, 4, none⟩ = some (.int .i64 wood) := by simp [World.cell?, hQ]
        have g5 : wr.cell? ⟨w.heap.size, 5, none⟩ = some (.slice (some ⟨ba, oa, none⟩) ls.length c) := by simp [World.cell?, hQ]
        have l0 : wr.cell? ⟨w.heap.size + 1, 0, none⟩ = some (.int .i64 a) := by simp [World.cell?, hL]
        have l1 : wr.cell? ⟨w.heap.size + 1, 1, none⟩ = some (.int .i64 t) := by simp [World.cell?, hL]
        have r0 : wr.cell? ⟨w.heap.size + 2, 0, none⟩ = some (.string ⟨#[]⟩) := by simp [World.cell?, hR]
        have y0 : wr.frozen? ⟨w.heap.size + 2, 0, none⟩ = false := by simp [World.frozen?, hR]
        have r1 : wr.cell? ⟨w.heap.size + 2, 1, none⟩ = some (.int .i64 0) := by simp [World.cell?, hR]
        have y1 : wr.frozen? ⟨w.heap.size + 2, 1, none⟩ = false := by simp [World.frozen?, hR]
        have r2 : wr.cell? ⟨w.heap.size + 2, 2, none⟩ = some (.int .i64 0) := by simp [World.cell?, hR]
        have y2 : wr.frozen? ⟨w.heap.size + 2, 2, none⟩ = false := by simp [World.frozen?, hR]
        have r3 : wr.cell? ⟨w.heap.size + 2, 3, none⟩ = some (.int .i64 0) := by simp [World.cell?, hR]
        have y3 : wr.frozen? ⟨w.heap.size + 2, 3, none⟩ = false := by simp [World.frozen?, hR]
        have r4 : wr.cell? ⟨w.heap.size + 2, 4, none⟩ = some (.int .i64 0) := by simp [World.cell?, hR]
        have y4 : wr.frozen? ⟨w.heap.size + 2, 4, none⟩ = false := by simp [World.frozen?, hR]
        have r5 : wr.cell? ⟨w.heap.size + 2, 5, none⟩ = some (.slice none 0 0) := by simp [World.cell?, hR]
        have y5 : wr.frozen? ⟨w.heap.size + 2, 5, none⟩ = false := by simp [World.frozen?, hR]
        have zqr : w.heap.size < wr.heap.size := by omega
        have zlr : w.heap.size + 1 < wr.heap.size := by omega
        have zrr : w.heap.size + 2 < wr.heap.size := by omega
        clear hQ hL hR
        by_cases hlt : k < ls.length
        · obtain ⟨b2, o2, e2, hb2, hc⟩ := HXW.out wr HB.out k hlt
          injection e2 with e2
          injection e2 with e2 e3
          subst e2
          subst e3
          have x0 := hc 0 _ rfl
          simp only [Nat.add_zero] at x0
          clear hc
          have hkl : (k : Int) < (ls.length : Int) := by omega
          by_cases hq : ls[k].at_ ≤ a
          · have dq : decide (ls[k].at_ ≤ a) = true := by simp; omega
            have HJ2 := hide (show ∀ j (hj : j < ls.length), j < k + 1 → ls[j].at_ ≤ a from fun j hj hjk => by
              by_cases ej : j = k
              · subst ej; exact hq
              · exact HJ.out j hj (by omega))
            clear hq
            generalize ls[k].at_ = ak at *
            go_wp2_with fail
            refine wp_region_kept (by kernel_rfl) (by kernel_rfl) ?_
            intro gc gf gz
            repeat (go_big_quiet_step (fail))
            refine wpQuiet_nil ?_
            intro w5 hw'
            obtain ⟨⟨_, hb5⟩, rfl⟩ := hw'
            clear gc gf gz
            try dsimp only
            have fs5 := hb5.size
            try simp at fs5 hb5
            have HB5 := hide (HB.out.trans (hb5.mono (by omega)))
            clear hb5 x0
            clear g0 g1 g2 g3 g4 g5 l0 l1 r0 r1 r2 r3 r4 r5 y0 y1 y2 y3 y4 y5 hBW hzW
            go_wp2_with fail
            go_roundw
            case rel => exact ⟨k + 1, by go_num, by omega, HJ2, HB5⟩
            case measure => simp [intOf]; omega
          · have dq : decide (ls[k].at_ ≤ a) = false := by simp; omega
            have hpo := posL_at (a := a) (k := k) hk HJ.out (fun _ => by omega)
            have HE2 := hide (show addR nm span wd dp wood ls a t = ((nm, span, wd, dp, wood), insL ls k ⟨a, t⟩, 0) from by rw [e.out, hpo])
            clear hpo HJ
            clear hq
            generalize ls[k].at_ = ak at *
            go_wp2_with fail
            refine wp_region_kept (by kernel_rfl) (by kernel_rfl) ?_
            intro gc gf gz
            repeat (go_big_quiet_step (fail))
            refine wpQuiet_nil ?_
            intro w5 hw'
            obtain ⟨⟨_, hb5⟩, rfl⟩ := hw'
            clear gc gf gz
            try dsimp only
            have fs5 := hb5.size
            try simp at fs5 hb5
            clear x0 dq
            have HB5 := hide (HB.out.trans (hb5.mono (by omega)))
            clear hb5
            clear g0 g1 g2 g3 g4 g5 l0 l1 r0 r1 r2 r3 r4 r5 y0 y1 y2 y3 y4 y5 hBW hzW
            obtain ⟨hQ, hL, hR, hBW, hzW⟩ := HBK.out _ HB5.out
            have g0 : w5.cell? ⟨w.heap.size, 0, none⟩ = some (.string nm) := by simp [World.cell?, hQ]
            have g1 : w5.cell? ⟨w.heap.size, 1, none⟩ = some (.int .i64 span) := by simp [World.cell?, hQ]
            have g2 : w5.cell? ⟨w.heap.size, 2, none⟩ = some (.int .i64 wd) := by simp [World.cell?, hQ]
            have g3 : w5.cell? ⟨w.heap.size, 3, none⟩ = some (.int .i64 dp) := by simp [World.cell?, hQ]
            have g4 : w5.cell? ⟨w.heap.size, 4, none⟩ = some (.int .i64 wood) := by simp [World.cell?, hQ]
            have g5 : w5.cell? ⟨w.heap.size, 5, none⟩ = some (.slice (some ⟨ba, oa, none⟩) ls.length c) := by simp [World.cell?, hQ]
            have l0 : w5.cell? ⟨w.heap.size + 1, 0, none⟩ = some (.int .i64 a) := by simp [World.cell?, hL]
            have l1 : w5.cell? ⟨w.heap.size + 1, 1, none⟩ = some (.int .i64 t) := by simp [World.cell?, hL]
            have r0 : w5.cell? ⟨w.heap.size + 2, 0, none⟩ = some (.string ⟨#[]⟩) := by simp [World.cell?, hR]
            have y0 : w5.frozen? ⟨w.heap.size + 2, 0, none⟩ = false := by simp [World.frozen?, hR]
            have r1 : w5.cell? ⟨w.heap.size + 2, 1, none⟩ = some (.int .i64 0) := by simp [World.cell?, hR]
            have y1 : w5.frozen? ⟨w.heap.size + 2, 1, none⟩ = false := by simp [World.frozen?, hR]
            have r2 : w5.cell? ⟨w.heap.size + 2, 2, none⟩ = some (.int .i64 0) := by simp [World.cell?, hR]
            have y2 : w5.frozen? ⟨w.heap.size + 2, 2, none⟩ = false := by simp [World.frozen?, hR]
            have r3 : w5.cell? ⟨w.heap.size + 2, 3, none⟩ = some (.int .i64 0) := by simp [World.cell?, hR]
            have y3 : w5.frozen? ⟨w.heap.size + 2, 3, none⟩ = false := by simp [World.frozen?, hR]
            have r4 : w5.cell? ⟨w.heap.size + 2, 4, none⟩ = some (.int .i64 0) := by simp [World.cell?, hR]
            have y4 : w5.frozen? ⟨w.heap.size + 2, 4, none⟩ = false := by simp [World.frozen?, hR]
            have r5 : w5.cell? ⟨w.heap.size + 2, 5, none⟩ = some (.slice none 0 0) := by simp [World.cell?, hR]
            have y5 : w5.frozen? ⟨w.heap.size + 2, 5, none⟩ = false := by simp [World.frozen?, hR]
            have zq5 : w.heap.size < w5.heap.size := by omega
            have zl5 : w.heap.size + 1 < w5.heap.size := by omega
            have zr5 : w.heap.size + 2 < w5.heap.size := by omega
            clear hQ hL hR
            go_wp2_with fail
            refine (implcopyBeam nm span wd dp wood ba oa c ls _ (HXW.out _ HB5.out) (by omega)).mono ?_
            rintro e6 w6 ⟨A6, c6, rfl, ho6, hb6⟩
            clear g0 g1 g2 g3 g4 g5 l0 l1 r0 r1 r2 r3 r4 r5 y0 y1 y2 y3 y4 y5 hBW hzW
            have B56 := hide hb6
            have B6 := hide (HB5.out.trans (hb6.mono (by have := HB5.out.size; omega)))
            have HO6 := hide ho6
            have hz6 := hb6.size
            have hz5 := HB5.out.size
            clear ho6 hb6
            obtain ⟨hQ6, hL6, hR6, hBW6, hzW6⟩ := HBK.out _ B6.out
            clear hBW6
            have l0 : w6.cell? ⟨w.heap.size + 1, 0, none⟩ = some (.int .i64 a) := by simp [World.cell?, hL6]
            have l1 : w6.cell? ⟨w.heap.size + 1, 1, none⟩ = some (.int .i64 t) := by simp [World.cell?, hL6]
            have hlq : w.heap.size + 1 < w6.heap.size := by omega
            have HB6 := hide (And.intro hQ6 (And.intro hL6 hR6))
            clear hQ6 hL6 hR6
            go_wp2_with fail
            have HO8 := hide (show OwnL ((w6.alloc (.cells #[.string nm, .int .i64 span, .int .i64 wd, .int .i64 dp, .int .i64 wood, .slice A6 ls.length c6] 30)).alloc (.cells #[.int .i64 a, .int .i64 t] 34)) w5.heap.size (.slice A6 ls.length c6) ls from (HO6.out.below ((Below.refl _ _).alloc (Nat.le_refl _) _)).below ((Below.refl _ _).alloc (Nat.le_refl _) _))
            have hz8 : ((w6.alloc (.cells #[.string nm, .int .i64 span, .int .i64 wd, .int .i64 dp, .int .i64 wood, .slice A6 ls.length c6] 30)).alloc (.cells #[.int .i64 a, .int .i64 t] 34)).heap.size = w6.heap.size + 2 := by simp
            have HV8 := hide (show ((w6.alloc (.cells #[.string nm, .int .i64 span, .int .i64 wd, .int .i64 dp, .int .i64 wood, .slice A6 ls.length c6] 30)).alloc (.cells #[.int .i64 a, .int .i64 t] 34)).heap[w6.heap.size + 1]? = some (.cells (encLoad ⟨a, t⟩).toArray 34 (0, 0)) from by have q := heap_alloc_new (w6.alloc (.cells #[.string nm, .int .i64 span, .int .i64 wd, .int .i64 dp, .int .i64 wood, .slice A6 ls.length c6] 30)) (.cells #[.int .i64 a, .int .i64 t] 34); simpa [encLoad] using q)
            have HOB8 := hide (show ((w6.alloc (.cells #[.string nm, .int .i64 span, .int .i64 wd, .int .i64 dp, .int .i64 wood, .slice A6 ls.length c6] 30)).alloc (.cells #[.int .i64 a, .int .i64 t] 34)).heap[w6.heap.size]? = some (.cells #[.string nm, .int .i64 span, .int .i64 wd, .int .i64 dp, .int .i64 wood, .slice A6 ls.length c6] 30 (0, 0)) from (heap_alloc_old _ _ (by simp)).trans (heap_alloc_new w6 _))
            have HR8 := hide (show ((w6.alloc (.cells #[.string nm, .int .i64 span, .int .i64 wd, .int .i64 dp, .int .i64 wood, .slice A6 ls.length c6] 30)).alloc (.cells #[.int .i64 a, .int .i64 t] 34)).heap[w.heap.size + 2]? = some (.cells #[.string ⟨#[]⟩, .int .i64 0, .int .i64 0, .int .i64 0, .int .i64 0, .slice none 0 0] 30 (0, 0)) from (heap_alloc_old _ _ (by simp; omega)).trans ((heap_alloc_old _ _ (by omega)).trans HB6.out.2.2))
            have B8 := hide (show Below w5.heap.size w5 ((w6.alloc (.cells #[.string nm, .int .i64 span, .int .i64 wd, .int .i64 dp, .int .i64 wood, .slice A6 ls.length c6] 30)).alloc (.cells #[.int .i64 a, .int .i64 t] 34)) from (B56.out.alloc hz6 _).alloc (by simp; omega) _)
            have hown6 := fun g (q : (Value.slice A6 ls.length c6).ownBlock = some g) => HO6.out.lt g q
            have HOL := hide hown6
            clear hown6 l0 l1 HO6 HB6
            refine (insertLoad w5.heap.size c6 _ (w6.heap.size + 1) A6 ls ⟨a, t⟩ _ HO8.out (by omega) (by omega) (by omega) HV8.out (fun g q => by have := (HOL.out g q).2; omega)).mono ?_
            rintro e9 w9 ⟨A9, c9, rfl, ho9, hg9, hsz9⟩
            have hOB : w9.heap[w6.heap.size]? = some (.cells #[.string nm, .int .i64 span, .int .i64 wd, .int .i64 dp, .int .i64 wood, .slice A6 ls.length c6] 30 (0, 0)) := (hg9.block _ (by omega) (fun q => by have := (HOL.out _ q.symm).2; omega)).trans HOB8.out
            have hRC : w9.heap[w.heap.size + 2]? = some (.cells #[.string ⟨#[]⟩, .int .i64 0, .int .i64 0, .int .i64 0, .int .i64 0, .slice none 0 0] 30 (0, 0)) := (hg9.block _ (by omega) (fun q => by have := (HOL.out _ q.symm).1; omega)).trans HR8.out
            have B9 := hide (show Below w5.heap.size w5 w9 from Below.grown B8.out hg9 B8.out.size (fun g q => (HOL.out g q).1))
            have g0 : w9.cell? ⟨w6.heap.size, 0, none⟩ = some (.string nm) := by simp [World.cell?, hOB]
            have g1 : w9.cell? ⟨w6.heap.size, 1, none⟩ = some (.int .i64 span) := by simp [World.cell?, hOB]
            have g2 : w9.cell? ⟨w6.heap.size, 2, none⟩ = some (.int .i64 wd) := by simp [World.cell?, hOB]
            have g3 : w9.cell? ⟨w6.heap.size, 3, none⟩ = some (.int .i64 dp) := by simp [World.cell?, hOB]
            have g4 : w9.cell? ⟨w6.heap.size, 4, none⟩ = some (.int .i64 wood) := by simp [World.cell?, hOB]
            have g5 : w9.cell? ⟨w6.heap.size, 5, none⟩ = some (.slice A6 ls.length c6) := by simp [World.cell?, hOB]
            have f5 : w9.frozen? ⟨w6.heap.size, 5, none⟩ = false := by simp [World.frozen?, hOB]
            have r0 : w9.cell? ⟨w.heap.size + 2, 0, none⟩ = some (.string ⟨#[]⟩) := by simp [World.cell?, hRC]
            have y0 : w9.frozen? ⟨w.heap.size + 2, 0, none⟩ = false := by simp [World.frozen?, hRC]
            have r1 : w9.cell? ⟨w.heap.size + 2, 1, none⟩ = some (.int .i64 0) := by simp [World.cell?, hRC]
            have y1 : w9.frozen? ⟨w.heap.size + 2, 1, none⟩ = false := by simp [World.frozen?, hRC]
            have r2 : w9.cell? ⟨w.heap.size + 2, 2, none⟩ = some (.int .i64 0) := by simp [World.cell?, hRC]
            have y2 : w9.frozen? ⟨w.heap.size + 2, 2, none⟩ = false := by simp [World.frozen?, hRC]
            have r3 : w9.cell? ⟨w.heap.size + 2, 3, none⟩ = some (.int .i64 0) := by simp [World.cell?, hRC]
            have y3 : w9.frozen? ⟨w.heap.size + 2, 3, none⟩ = false := by simp [World.frozen?, hRC]
            have r4 : w9.cell? ⟨w.heap.size + 2, 4, none⟩ = some (.int .i64 0) := by simp [World.cell?, hRC]
            have y4 : w9.frozen? ⟨w.heap.size + 2, 4, none⟩ = false := by simp [World.frozen?, hRC]
            have r5 : w9.cell? ⟨w.heap.size + 2, 5, none⟩ = some (.slice none 0 0) := by simp [World.cell?, hRC]
            have y5 : w9.frozen? ⟨w.heap.size + 2, 5, none⟩ = false := by simp [World.frozen?, hRC]
            have HO9 := hide ho9
            have HT9 := hide hOB
            have BW9 := hide (show Below w.heap.size w w9 from ((HBK.out _ HB5.out).2.2.2.1).trans (B9.out.mono (by omega)))
            have hq1 : w.heap.size + 2 < w6.heap.size := by omega
            have hq2 : w6.heap.size < w9.heap.size := by omega
            clear hOB hRC ho9 hg9
            go_wp2_with fail
            refine bodyPost_ret (v := .tuple #[.agg #[.string nm, .int .i64 span, .int .i64 wd, .int .i64 dp, .int .i64 wood, .slice A9 (ls.length + 1) c9], .int .i64 0]) (by simp [results, Try.results12, go_sem, r0, r1, r2, r3, r4, r5]) rfl ?_
            refine ⟨nm, span, wd, dp, wood, A9, c9, insL ls k ⟨a, t⟩, 0, by rw [insL_len (by omega)], HE2.out, hs, by rw [insL_len (by omega)]; omega, ?_, ?_⟩
            · rw [insL_len (by omega)]
              refine Own.mono (B := w5.heap.size) ?_ (by omega)
              repeat (first | with_reducible refine own_setOut ?_ (by omega) | with_reducible exact own_setType HO9.out HT9.out (by decide))
            · have hb := BW9.out
              exact (by repeat (first | with_reducible exact Below.refl _ _ | with_reducible assumption | (with_reducible refine Below.drew ?_) | (with_reducible refine below_drewN ?_ _) | ((with_reducible refine Below.alloc ?_ ?_ _); rotate_left; (focus (first | omega | (simp; omega) | simp))) | ((with_reducible refine Below.setCell ?_ ?_ _); rotate_left; (focus (first | omega | (simp; omega) | simp))) | (refine Below.trans ?_ (Below.mono (by assumption) (by first | omega | (simp; omega) | simp)))))
        · obtain rfl : k = ls.length := by omega
          have hpo := posL_at (a := a) (k := ls.length) hk HJ.out (fun h => by omega)
          have HE2 := hide (show addR nm span wd dp wood ls a t = ((nm, span, wd, dp, wood), insL ls ls.length ⟨a, t⟩, 0) from by rw [e.out, hpo])
          clear hpo HJ
          go_wp2_with fail
          refine wp_region_kept (by kernel_rfl) (by kernel_rfl) ?_
          intro gc gf gz
          repeat (go_big_quiet_step (fail))
          refine wpQuiet_nil ?_
          intro w5 hw'
          obtain ⟨⟨_, hb5⟩, rfl⟩ := hw'
          clear gc gf gz
          try dsimp only
          have fs5 := hb5.size
          try simp at fs5 hb5
          have HB5 := hide (HB.out.trans (hb5.mono (by omega)))
          clear hb5
          clear g0 g1 g2 g3 g4 g5 l0 l1 r0 r1 r2 r3 r4 r5 y0 y1 y2 y3 y4 y5 hBW hzW
          obtain ⟨hQ, hL, hR, hBW, hzW⟩ := HBK.out _ HB5.out
          have g0 : w5.cell? ⟨w.heap.size, 0, none⟩ = some (.string nm) := by simp [World.cell?, hQ]
          have g1 : w5.cell? ⟨w.heap.size, 1, none⟩ = some (.int .i64 span) := by simp [World.cell?, hQ]
          have g2 : w5.cell? ⟨w.heap.size, 2, none⟩ = some (.int .i64 wd) := by simp [World.cell?, hQ]
          have g3 : w5.cell? ⟨w.heap.size, 3, none⟩ = some (.int .i64 dp) := by simp [World.cell?, hQ]
          have g4 : w5.cell? ⟨w.heap.size, 4, none⟩ = some (.int .i64 wood) := by simp [World.cell?, hQ]
          have g5 : w5.cell? ⟨w.heap.size, 5, none⟩ = some (.slice (some ⟨ba, oa, none⟩) ls.length c) := by simp [World.cell?, hQ]
          have l0 : w5.cell? ⟨w.heap.size + 1, 0, none⟩ = some (.int .i64 a) := by simp [World.cell?, hL]
          have l1 : w5.cell? ⟨w.heap.size + 1, 1, none⟩ = some (.int .i64 t) := by simp [World.cell?, hL]
          have r0 : w5.cell? ⟨w.heap.size + 2, 0, none⟩ = some (.string ⟨#[]⟩) := by simp [World.cell?, hR]
          have y0 : w5.frozen? ⟨w.heap.size + 2, 0, none⟩ = false := by simp [World.frozen?, hR]
          have r1 : w5.cell? ⟨w.heap.size + 2, 1, none⟩ = some (.int .i64 0) := by simp [World.cell?, hR]
          have y1 : w5.frozen? ⟨w.heap.size + 2, 1, none⟩ = false := by simp [World.frozen?, hR]
          have r2 : w5.cell? ⟨w.heap.size + 2, 2, none⟩ = some (.int .i64 0) := by simp [World.cell?, hR]
          have y2 : w5.frozen? ⟨w.heap.size + 2, 2, none⟩ = false := by simp [World.frozen?, hR]
          have r3 : w5.cell? ⟨w.heap.size + 2, 3, none⟩ = some (.int .i64 0) := by simp [World.cell?, hR]
          have y3 : w5.frozen? ⟨w.heap.size + 2, 3, none⟩ = false := by simp [World.frozen?, hR]
          have r4 : w5.cell? ⟨w.heap.size + 2, 4, none⟩ = some (.int .i64 0) := by simp [World.cell?, hR]
          have y4 : w5.frozen? ⟨w.heap.size + 2, 4, none⟩ = false := by simp [World.frozen?, hR]
          have r5 : w5.cell? ⟨w.heap.size + 2, 5, none⟩ = some (.slice none 0 0) := by simp [World.cell?, hR]
          have y5 : w5.frozen? ⟨w.heap.size + 2, 5, none⟩ = false := by simp [World.frozen?, hR]
          have zq5 : w.heap.size < w5.heap.size := by omega
          have zl5 : w.heap.size + 1 < w5.heap.size := by omega
          have zr5 : w.heap.size + 2 < w5.heap.size := by omega
          clear hQ hL hR
          go_wp2_with fail
          refine (implcopyBeam nm span wd dp wood ba oa c ls _ (HXW.out _ HB5.out) (by omega)).mono ?_
          rintro e6 w6 ⟨A6, c6, rfl, ho6, hb6⟩
          clear g0 g1 g2 g3 g4 g5 l0 l1 r0 r1 r2 r3 r4 r5 y0 y1 y2 y3 y4 y5 hBW hzW
          have B56 := hide hb6
          have B6 := hide (HB5.out.trans (hb6.mono (by have := HB5.out.size; omega)))
          have HO6 := hide ho6
          have hz6 := hb6.size
          have hz5 := HB5.out.size
          clear ho6 hb6
          obtain ⟨hQ6, hL6, hR6, hBW6, hzW6⟩ := HBK.out _ B6.out
          clear hBW6
          have l0 : w6.cell? ⟨w.heap.size + 1, 0, none⟩ = some (.int .i64 a) := by simp [World.cell?, hL6]
          have l1 : w6.cell? ⟨w.heap.size + 1, 1, none⟩ = some (.int .i64 t) := by simp [World.cell?, hL6]
          have hlq : w.heap.size + 1 < w6.heap.size := by omega
          have HB6 := hide (And.intro hQ6 (And.intro hL6 hR6))
          clear hQ6 hL6 hR6
          go_wp2_with fail
          have HO8 := hide (show OwnL ((w6.alloc (.cells #[.string nm, .int .i64 span, .int .i64 wd, .int .i64 dp, .int .i64 wood, .slice A6 ls.length c6] 30)).alloc (.cells #[.int .i64 a, .int .i64 t] 34)) w5.heap.size (.slice A6 ls.length c6) ls from (HO6.out.below ((Below.refl _ _).alloc (Nat.le_refl _) _)).below ((Below.refl _ _).alloc (Nat.le_refl _) _))
          have hz8 : ((w6.alloc (.cells #[.string nm, .int .i64 span, .int .i64 wd, .int .i64 dp, .int .i64 wood, .slice A6 ls.length c6] 30)).alloc (.cells #[.int .i64 a, .int .i64 t] 34)).heap.size = w6.heap.size + 2 := by simp
          have HV8 := hide (show ((w6.alloc (.cells #[.string nm, .int .i64 span, .int .i64 wd, .int .i64 dp, .int .i64 wood, .slice A6 ls.length c6] 30)).alloc (.cells #[.int .i64 a, .int .i64 t] 34)).heap[w6.heap.size + 1]? = some (.cells (encLoad ⟨a, t⟩).toArray 34 (0, 0)) from by have q := heap_alloc_new (w6.alloc (.cells #[.string nm, .int .i64 span, .int .i64 wd, .int .i64 dp, .int .i64 wood, .slice A6 ls.length c6] 30)) (.cells #[.int .i64 a, .int .i64 t] 34); simpa [encLoad] using q)
          have HOB8 := hide (show ((w6.alloc (.cells #[.string nm, .int .i64 span, .int .i64 wd, .int .i64 dp, .int .i64 wood, .slice A6 ls.length c6] 30)).alloc (.cells #[.int .i64 a, .int .i64 t] 34)).heap[w6.heap.size]? = some (.cells #[.string nm, .int .i64 span, .int .i64 wd, .int .i64 dp, .int .i64 wood, .slice A6 ls.length c6] 30 (0, 0)) from (heap_alloc_old _ _ (by simp)).trans (heap_alloc_new w6 _))
          have HR8 := hide (show ((w6.alloc (.cells #[.string nm, .int .i64 span, .int .i64 wd, .int .i64 dp, .int .i64 wood, .slice A6 ls.length c6] 30)).alloc (.cells #[.int .i64 a, .int .i64 t] 34)).heap[w.heap.size + 2]? = some (.cells #[.string ⟨#[]⟩, .int .i64 0, .int .i64 0, .int .i64 0, .int .i64 0, .slice none 0 0] 30 (0, 0)) from (heap_alloc_old _ _ (by simp; omega)).trans ((heap_alloc_old _ _ (by omega)).trans HB6.out.2.2))
          have B8 := hide (show Below w5.heap.size w5 ((w6.alloc (.cells #[.string nm, .int .i64 span, .int .i64 wd, .int .i64 dp, .int .i64 wood, .slice A6 ls.length c6] 30)).alloc (.cells #[.int .i64 a, .int .i64 t] 34)) from (B56.out.alloc hz6 _).alloc (by simp; omega) _)
          have hown6 := fun g (q : (Value.slice A6 ls.length c6).ownBlock = some g) => HO6.out.lt g q
          have HOL := hide hown6
          clear hown6 l0 l1 HO6 HB6
          refine (insertLoad w5.heap.size c6 _ (w6.heap.size + 1) A6 ls ⟨a, t⟩ _ HO8.out (by omega) (by omega) (by omega) HV8.out (fun g q => by have := (HOL.out g q).2; omega)).mono ?_
          rintro e9 w9 ⟨A9, c9, rfl, ho9, hg9, hsz9⟩
          have hOB : w9.heap[w6.heap.size]? = some (.cells #[.string nm, .int .i64 span, .int .i64 wd, .int .i64 dp, .int .i64 wood, .slice A6 ls.length c6] 30 (0, 0)) := (hg9.block _ (by omega) (fun q => by have := (HOL.out _ q.symm).2; omega)).trans HOB8.out
          have hRC : w9.heap[w.heap.size + 2]? = some (.cells #[.string ⟨#[]⟩, .int .i64 0, .int .i64 0, .int .i64 0, .int .i64 0, .slice none 0 0] 30 (0, 0)) := (hg9.block _ (by omega) (fun q => by have := (HOL.out _ q.symm).1; omega)).trans HR8.out
          have B9 := hide (show Below w5.heap.size w5 w9 from Below.grown B8.out hg9 B8.out.size (fun g q => (HOL.out g q).1))
          have g0 : w9.cell? ⟨w6.heap.size, 0, none⟩ = some (.string nm) := by simp [World.cell?, hOB]
          have g1 : w9.cell? ⟨w6.heap.size, 1, none⟩ = some (.int .i64 span) := by simp [World.cell?, hOB]
          have g2 : w9.cell? ⟨w6.heap.size, 2, none⟩ = some (.int .i64 wd) := by simp [World.cell?, hOB]
          have g3 : w9.cell? ⟨w6.heap.size, 3, none⟩ = some (.int .i64 dp) := by simp [World.cell?, hOB]
          have g4 : w9.cell? ⟨w6.heap.size, 4, none⟩ = some (.int .i64 wood) := by simp [World.cell?, hOB]
          have g5 : w9.cell? ⟨w6.heap.size, 5, none⟩ = some (.slice A6 ls.length c6) := by simp [World.cell?, hOB]
          have f5 : w9.frozen? ⟨w6.heap.size, 5, none⟩ = false := by simp [World.frozen?, hOB]
          have r0 : w9.cell? ⟨w.heap.size + 2, 0, none⟩ = some (.string ⟨#[]⟩) := by simp [World.cell?, hRC]
          have y0 : w9.frozen? ⟨w.heap.size + 2, 0, none⟩ = false := by simp [World.frozen?, hRC]
          have r1 : w9.cell? ⟨w.heap.size + 2, 1, none⟩ = some (.int .i64 0) := by simp [World.cell?, hRC]
          have y1 : w9.frozen? ⟨w.heap.size + 2, 1, none⟩ = false := by simp [World.frozen?, hRC]
          have r2 : w9.cell? ⟨w.heap.size + 2, 2, none⟩ = some (.int .i64 0) := by simp [World.cell?, hRC]
          have y2 : w9.frozen? ⟨w.heap.size + 2, 2, none⟩ = false := by simp [World.frozen?, hRC]
          have r3 : w9.cell? ⟨w.heap.size + 2, 3, none⟩ = some (.int .i64 0) := by simp [World.cell?, hRC]
          have y3 : w9.frozen? ⟨w.heap.size + 2, 3, none⟩ = false := by simp [World.frozen?, hRC]
          have r4 : w9.cell? ⟨w.heap.size + 2, 4, none⟩ = some (.int .i64 0) := by simp [World.cell?, hRC]
          have y4 : w9.frozen? ⟨w.heap.size + 2, 4, none⟩ = false := by simp [World.frozen?, hRC]
          have r5 : w9.cell? ⟨w.heap.size + 2, 5, none⟩ = some (.slice none 0 0) := by simp [World.cell?, hRC]
          have y5 : w9.frozen? ⟨w.heap.size + 2, 5, none⟩ = false := by simp [World.frozen?, hRC]
          have HO9 := hide ho9
          have HT9 := hide hOB
          have BW9 := hide (show Below w.heap.size w w9 from ((HBK.out _ HB5.out).2.2.2.1).trans (B9.out.mono (by omega)))
          have hq1 : w.heap.size + 2 < w6.heap.size := by omega
          have hq2 : w6.heap.size < w9.heap.size := by omega
          clear hOB hRC ho9 hg9
          go_wp2_with fail
          refine bodyPost_ret (v := .tuple #[.agg #[.string nm, .int .i64 span, .int .i64 wd, .int .i64 dp, .int .i64 wood, .slice A9 (ls.length + 1) c9], .int .i64 0]) (by simp [results, Try.results12, go_sem, r0, r1, r2, r3, r4, r5]) rfl ?_
          refine ⟨nm, span, wd, dp, wood, A9, c9, insL ls ls.length ⟨a, t⟩, 0, by rw [insL_len (by omega)], HE2.out, hs, by rw [insL_len (by omega)]; omega, ?_, ?_⟩
          · rw [insL_len (by omega)]
            refine Own.mono (B := w5.heap.size) ?_ (by omega)
            repeat (first | with_reducible refine own_setOut ?_ (by omega) | with_reducible exact own_setType HO9.out HT9.out (by decide))
          · have hb := BW9.out
            exact (by repeat (first | with_reducible exact Below.refl _ _ | with_reducible assumption | (with_reducible refine Below.drew ?_) | (with_reducible refine below_drewN ?_ _) | ((with_reducible refine Below.alloc ?_ ?_ _); rotate_left; (focus (first | omega | (simp; omega) | simp))) | ((with_reducible refine Below.setCell ?_ ?_ _); rotate_left; (focus (first | omega | (simp; omega) | simp))) | (refine Below.trans ?_ (Below.mono (by assumption) (by first | omega | (simp; omega) | simp)))))
end Go.Proofs.Ytklmbgefdopifaa
