/- The opening of arguments: models, profiles and goals. -/
import Derived.Test.YtnefgafmnpblpaaGreatFrame2
import Derived.Test.YtnefgafmnpblpaaGreatPnW2
import Derived.Test.YtnefgafmnpblpaaGreatPnV
import Derived.Deep.Slices
namespace Go.Proofs.YtnefgafmnpblpaaGreat
open Go.RowKit Go.ChangeShapes Go.WideShapes Go.ChangeAt Go.Joins Go.Deep

set_option maxRecDepth 100000 in
theorem open_Int_cell {H : Type} {enc : TypeId × Value → H} {W : World} {b0 : Nat} {sp : Nat → Bool} {hd : Bool} {fuel : Nat} {v : Value} {y : DataW H × List MemPlace} (h : DataW.trod enc Tryz.prog W b0 sp hd fuel 24 [v] = some y) :
    ∃ (A : Option Addr) (c : Nat) (xs : List Int), v = .slice A xs.length c ∧ SlAt encI 1 W A xs ∧ xs.length ≤ maxLen := by
  rcases open_slice1 (e := 2) Tryz.underlying24 (by kernel_rfl) h with ⟨hcs, -⟩ | ⟨a, len', cap', m, n, V, D, Pl, hcs, -, hl, hm, hmm, -, hi⟩
  · injection hcs with hcs _
    subst hcs
    exact ⟨none, 0, [], rfl, (fun k hk => by simp at hk), by simp⟩
  · injection hcs with hcs _
    subst hcs
    refine ⟨some a, cap', (List.range len').map fun k => intOf (V k), by simp, (fun k hk => ?_), by simp; omega⟩
    have hk' : k < len' := by simpa using hk
    have hkm : k < m := by rw [hmm]; split <;> omega
    obtain ⟨hc, ht⟩ := hi k hkm
    obtain ⟨x, ex, hw⟩ := trod_int' Tryz.underlying2 ht
    obtain ⟨ab, ao, sp⟩ := a
    have hspot : sp = none := by
      obtain ⟨hc0, _⟩ := hi 0 (by omega)
      simpa [Addr.add] using World.cell?_spot hc0
    subst hspot
    rw [Addr.add_lit, ex] at hc
    refine ⟨ab, ao, rfl, World.block_lt_of_cell? _ _ hc, fun j u hj => ?_⟩
    match j, hj with
    | 0, hj =>
      injection hj with hj
      subst hj
      simp only [List.getElem_map, List.getElem_range, ex, Nat.mul_one, Nat.add_zero]
      exact hc
set_option maxRecDepth 100000 in
theorem open_IntSS_cell {H : Type} {enc : TypeId × Value → H} {W : World} {b0 : Nat} {sp : Nat → Bool} {hd : Bool} {fuel : Nat} {v : Value} {y : DataW H × List MemPlace} (h : DataW.trod enc Tryz.prog W b0 sp hd fuel 25 [v] = some y) :
    ∃ (A : Option Addr) (c : Nat) (ls : List (List Int)), v = .slice A ls.length c ∧ SSAt W A ls ∧ ls.length ≤ maxLen ∧ ∀ l ∈ ls, l.length ≤ maxLen := by
  rcases open_slice1 (e := 24) Tryz.underlying25 (by kernel_rfl) h with ⟨hcs, -⟩ | ⟨a, len', cap', m, n, V, D, Pl, hcs, -, hl, hm, hmm, -, hi⟩
  · injection hcs with hcs _
    subst hcs
    exact ⟨none, 0, [], rfl, (fun k hk => by simp at hk), by simp, by simp⟩
  · injection hcs with hcs _
    subst hcs
    have key : ∀ k, ∃ xs : List Int, k < len' → ∃ (A : Option Addr) (c : Nat), V k = .slice A xs.length c ∧ SlAt encI 1 W A xs ∧ xs.length ≤ maxLen := fun k => by
      by_cases hk : k < len'
      · obtain ⟨A, c, xs, e1, e2, e3⟩ := open_Int_cell (hi k (by rw [hmm]; split <;> omega)).2
        exact ⟨xs, fun _ => ⟨A, c, e1, e2, e3⟩⟩
      · exact ⟨[], fun q => absurd q hk⟩
    refine ⟨some a, cap', (List.range len').map fun k => Classical.choose (key k), by simp, (fun k hk => ?_), by simp; omega, fun l hl2 => ?_⟩
    · have hk' : k < len' := by simpa using hk
      obtain ⟨A, c, e1, e2, e3⟩ := Classical.choose_spec (key k) hk'
      obtain ⟨hc, -⟩ := hi k (by rw [hmm]; split <;> omega)
      obtain ⟨ab, ao, sp⟩ := a
      have hspot : sp = none := by
        obtain ⟨hc0, _⟩ := hi 0 (by rw [hmm]; split <;> omega)
        simpa [Addr.add] using World.cell?_spot hc0
      subst hspot
      rw [Addr.add_lit, e1] at hc
      refine ⟨ab, ao, A, c, rfl, World.block_lt_of_cell? _ _ hc, ?_, ?_⟩
      · simp only [List.getElem_map, List.getElem_range]; exact hc
      · simp only [List.getElem_map, List.getElem_range]; exact e2
    · obtain ⟨k, hk, rfl⟩ := List.mem_map.1 hl2
      obtain ⟨A, c, e1, e2, e3⟩ := Classical.choose_spec (key k) (by simpa using hk)
      exact e3
set_option maxRecDepth 100000 in
theorem open_Ring_cell {H : Type} {enc : TypeId × Value → H} {W : World} {b0 : Nat} {sp : Nat → Bool} {hd : Bool} {fuel : Nat} {v : Value} {y : DataW H × List MemPlace} (h : DataW.trod enc Tryz.prog W b0 sp hd fuel 56 [v] = some y) :
    ∃ (A : Option Addr) (c : Nat) (xs : List RingR), v = .slice A xs.length c ∧ SlAt encRing 3 W A xs ∧ (∀ x ∈ xs, True) ∧ xs.length ≤ maxLen := by
  refine open_rows (en := encRing) (good := fun x => True) Tryz.underlying56 Tryz.underlying174 (by kernel_rfl) (by kernel_rfl) (by decide) (fun _ => rfl) ?_ h
  intro vs hf
  obtain ⟨n0, y0, g0⟩ := hf 0 _ rfl
  obtain ⟨a0, e0, w0⟩ := trod_int' Tryz.underlying2 g0
  obtain ⟨n1, y1, g1⟩ := hf 1 _ rfl
  obtain ⟨a1, e1, w1⟩ := trod_int' Tryz.underlying2 g1
  obtain ⟨n2, y2, g2⟩ := hf 2 _ rfl
  obtain ⟨a2, e2, w2⟩ := trod_int' Tryz.underlying2 g2
  refine ⟨⟨a0, a1, a2⟩, trivial, fun j v hj => ?_⟩
  match j, hj with
  | 0, hj => injection hj with hj; rw [← hj]; exact e0.symm
  | 1, hj => injection hj with hj; rw [← hj]; exact e1.symm
  | 2, hj => injection hj with hj; rw [← hj]; exact e2.symm
set_option maxRecDepth 100000 in
theorem open_RingS {H : Type} {enc : TypeId × Value → H} {W : World} {r : Reach} {base b0 : Nat} {sp : Nat → Bool} {hd : Bool} {v : Value} {d : DataW H} {p : List MemPlace} (hv : Value.okWide Tryz.prog W r base 56 v) (h : DataW.Trod enc Tryz.prog W b0 sp hd 56 v d p) :
    ∃ (A : Option Addr) (c : Nat) (xs : List RingR), v = .slice A xs.length c ∧ SlAt encRing 3 W A xs ∧ (∀ x ∈ xs, True) ∧ xs.length ≤ maxLen := by
  obtain ⟨a0, len, cap, rfl⟩ := okWide_slice Tryz.underlying56 hv
  obtain ⟨fuel, hf⟩ := h
  refine open_rows (en := encRing) (good := fun x => True) Tryz.underlying56 Tryz.underlying174 (by kernel_rfl) (by kernel_rfl) (by decide) (fun _ => rfl) ?_ (show DataW.trod enc Tryz.prog W b0 sp hd fuel 56 [.slice a0 len cap] = some (d, p) from hf)
  intro vs hf
  obtain ⟨n0, y0, g0⟩ := hf 0 _ rfl
  obtain ⟨a0, e0, w0⟩ := trod_int' Tryz.underlying2 g0
  obtain ⟨n1, y1, g1⟩ := hf 1 _ rfl
  obtain ⟨a1, e1, w1⟩ := trod_int' Tryz.underlying2 g1
  obtain ⟨n2, y2, g2⟩ := hf 2 _ rfl
  obtain ⟨a2, e2, w2⟩ := trod_int' Tryz.underlying2 g2
  refine ⟨⟨a0, a1, a2⟩, trivial, fun j v hj => ?_⟩
  match j, hj with
  | 0, hj => injection hj with hj; rw [← hj]; exact e0.symm
  | 1, hj => injection hj with hj; rw [← hj]; exact e1.symm
  | 2, hj => injection hj with hj; rw [← hj]; exact e2.symm
set_option maxRecDepth 100000 in
theorem open_Model0 {H : Type} {enc : TypeId × Value → H} {W : World} {r : Reach} {base b0 : Nat} {sp : Nat → Bool} {hd : Bool} {v : Value} {d : DataW H} {p : List MemPlace} (hv : Value.okWide Tryz.prog W r base 55 v) (h : DataW.Trod enc Tryz.prog W b0 sp hd 55 v d p) :
    ∃ (a0 : Value) (a1 : Value) (a2 : Value), v = .agg #[a0, a1, a2] ∧ (∃ (n : Nat) (y : DataW H × List MemPlace), DataW.trod enc Tryz.prog W b0 sp hd n 24 [a0] = some y) ∧ (∃ (n : Nat) (y : DataW H × List MemPlace), DataW.trod enc Tryz.prog W b0 sp hd n 25 [a1] = some y) ∧ (∃ (n : Nat) (y : DataW H × List MemPlace), DataW.trod enc Tryz.prog W b0 sp hd n 24 [a2] = some y) := by
  obtain ⟨cs, rfl, hl, hf⟩ := open_agg Tryz.underlying55 (by kernel_rfl) (by kernel_rfl) hv h
  match cs, hl with
  | [c0, c1, c2], _ =>
    obtain ⟨n0, y0, g0⟩ := hf 0 _ c0 rfl rfl
    obtain ⟨n1, y1, g1⟩ := hf 1 _ c1 rfl rfl
    obtain ⟨n2, y2, g2⟩ := hf 2 _ c2 rfl rfl
    exact ⟨_, _, _, rfl, ⟨_, _, g0⟩, ⟨_, _, g1⟩, ⟨_, _, g2⟩⟩
set_option maxRecDepth 100000 in
theorem open_Profile0 {H : Type} {enc : TypeId × Value → H} {W : World} {r : Reach} {base b0 : Nat} {sp : Nat → Bool} {hd : Bool} {v : Value} {d : DataW H} {p : List MemPlace} (hv : Value.okWide Tryz.prog W r base 58 v) (h : DataW.Trod enc Tryz.prog W b0 sp hd 58 v d p) :
    ∃ (a0 : ByteArray) (a1 : Value), v = .agg #[.string a0, a1] ∧ a0.size ≤ maxLen ∧ (∃ (n : Nat) (y : DataW H × List MemPlace), DataW.trod enc Tryz.prog W b0 sp hd n 56 [a1] = some y) := by
  obtain ⟨cs, rfl, hl, hf⟩ := open_agg Tryz.underlying58 (by kernel_rfl) (by kernel_rfl) hv h
  match cs, hl with
  | [c0, c1], _ =>
    obtain ⟨n0, y0, g0⟩ := hf 0 _ c0 rfl rfl
    obtain ⟨a0, rfl, w0⟩ := trod_string' Tryz.underlying9 g0
    obtain ⟨n1, y1, g1⟩ := hf 1 _ c1 rfl rfl
    exact ⟨_, _, rfl, w0, ⟨_, _, g1⟩⟩
set_option maxRecDepth 100000 in
theorem open_Model {H : Type} {enc : TypeId × Value → H} {W : World} {r : Reach} {base b0 : Nat} {sp : Nat → Bool} {hd : Bool} {v : Value} {d : DataW H} {p : List MemPlace} (hv : Value.okWide Tryz.prog W r base 55 v) (h : DataW.Trod enc Tryz.prog W b0 sp hd 55 v d p) :
    ∃ (Az : Option Addr) (cz : Nat) (zs : List Int) (Aw : Option Addr) (cw : Nat) (ws : List (List Int)) (Ab : Option Addr) (cb : Nat) (bs : List Int), v = .agg #[.slice Az zs.length cz, .slice Aw ws.length cw, .slice Ab bs.length cb] ∧ MdAt W Az Aw Ab zs ws bs ∧ zs.length ≤ maxLen ∧ ws.length ≤ maxLen ∧ bs.length ≤ maxLen ∧ ∀ l ∈ ws, l.length ≤ maxLen := by
  obtain ⟨a0, a1, a2, rfl, ⟨n0, y0, h0⟩, ⟨n1, y1, h1⟩, ⟨n2, y2, h2⟩⟩ := open_Model0 hv h
  obtain ⟨Az, cz, zs, rfl, s0, l0⟩ := open_Int_cell h0
  obtain ⟨Aw, cw, ws, rfl, s1, l1, l3⟩ := open_IntSS_cell h1
  obtain ⟨Ab, cb, bs, rfl, s2, l2⟩ := open_Int_cell h2
  exact ⟨Az, cz, zs, Aw, cw, ws, Ab, cb, bs, rfl, ⟨s0, s1, s2⟩, l0, l1, l2, l3⟩
set_option maxRecDepth 100000 in
theorem open_Profile {H : Type} {enc : TypeId × Value → H} {W : World} {r : Reach} {base b0 : Nat} {sp : Nat → Bool} {hd : Bool} {v : Value} {d : DataW H} {p : List MemPlace} (hv : Value.okWide Tryz.prog W r base 58 v) (h : DataW.Trod enc Tryz.prog W b0 sp hd 58 v d p) :
    ∃ (nm : ByteArray) (A : Option Addr) (c : Nat) (rs : List RingR), v = .agg #[.string nm, .slice A rs.length c] ∧ nm.size ≤ maxLen ∧ SlAt encRing 3 W A rs ∧ rs.length ≤ maxLen := by
  obtain ⟨a0, a1, rfl, w0, ⟨n1, y1, h1⟩⟩ := open_Profile0 hv h
  obtain ⟨A, c, rs, rfl, s1, -, l1⟩ := open_Ring_cell h1
  exact ⟨a0, A, c, rs, rfl, w0, s1, l1⟩
set_option maxRecDepth 100000 in
theorem open_GoalF {H : Type} {enc : TypeId × Value → H} {W : World} {r : Reach} {base b0 : Nat} {sp : Nat → Bool} {hd : Bool} {v : Value} {d : DataW H} {p : List MemPlace} (hv : Value.okWide Tryz.prog W r base 61 v) (h : DataW.Trod enc Tryz.prog W b0 sp hd 61 v d p) :
    ∃ (t0 t1 t2 t3 t4 tol most : Int), v = .agg #[.int .i64 t0, .int .i64 t1, .int .i64 t2, .int .i64 t3, .int .i64 t4, .int .i64 tol, .int .i64 most] := by
  obtain ⟨cs, rfl, hsz⟩ := okWide_struct Tryz.underlying61 hv
  have hC : Tryz.prog.cellsOf 61 = 7 := by kernel_rfl
  rw [hC] at hsz
  obtain ⟨l⟩ := cs
  have hl : l.length = 7 := by simpa using hsz
  match l, hl with
  | [c0, c1, c2, c3, c4, c5, c6], _ =>
    obtain ⟨fuel, hf⟩ := h
    have hf' : DataW.trod enc Tryz.prog W b0 sp hd fuel 61 [c0, c1, c2, c3, c4, c5, c6] = some (d, p) := hf
    obtain ⟨ys, n', hn', hy, hlen, hyl, hg⟩ := DataW.trod_struct Tryz.underlying61 hf'
    have e2 : Tryz.prog.cellsOf 2 = 1 := by kernel_rfl
    have eS : Tryz.prog.cellsOf 59 = 5 := by kernel_rfl
    have h0 : DataW.trod enc Tryz.prog W b0 sp hd n' 59 (([c0, c1, c2, c3, c4, c5, c6].drop 0).take (Tryz.prog.cellsOf 59)) = ys[0]? := hg 0 _ rfl
    have h1 : DataW.trod enc Tryz.prog W b0 sp hd n' 2 (([c0, c1, c2, c3, c4, c5, c6].drop 5).take (Tryz.prog.cellsOf 2)) = ys[1]? := hg 1 _ rfl
    have h2 : DataW.trod enc Tryz.prog W b0 sp hd n' 2 (([c0, c1, c2, c3, c4, c5, c6].drop 6).take (Tryz.prog.cellsOf 2)) = ys[2]? := hg 2 _ rfl
    have y0 : ys[0]? = some (ys[0]'(by rw [hyl]; decide)) := List.getElem?_eq_getElem _
    have y1 : ys[1]? = some (ys[1]'(by rw [hyl]; decide)) := List.getElem?_eq_getElem _
    have y2 : ys[2]? = some (ys[2]'(by rw [hyl]; decide)) := List.getElem?_eq_getElem _
    simp only [e2, eS, List.drop_zero, List.drop_succ_cons, List.take_succ_cons, List.take_zero] at h0 h1 h2
    obtain ⟨a5, rfl, w5⟩ := trod_int' Tryz.underlying2 (h1.trans y1)
    obtain ⟨a6, rfl, w6⟩ := trod_int' Tryz.underlying2 (h2.trans y2)
    obtain ⟨zs, n2, hn2, hz, hlen2, hzl, hk⟩ := DataW.trod_struct Tryz.underlying59 (h0.trans y0)
    have g0 : DataW.trod enc Tryz.prog W b0 sp hd n2 2 (([c0, c1, c2, c3, c4].drop 0).take (Tryz.prog.cellsOf 2)) = zs[0]? := hk 0 _ rfl
    have g1 : DataW.trod enc Tryz.prog W b0 sp hd n2 2 (([c0, c1, c2, c3, c4].drop 1).take (Tryz.prog.cellsOf 2)) = zs[1]? := hk 1 _ rfl
    have g2 : DataW.trod enc Tryz.prog W b0 sp hd n2 2 (([c0, c1, c2, c3, c4].drop 2).take (Tryz.prog.cellsOf 2)) = zs[2]? := hk 2 _ rfl
    have g3 : DataW.trod enc Tryz.prog W b0 sp hd n2 2 (([c0, c1, c2, c3, c4].drop 3).take (Tryz.prog.cellsOf 2)) = zs[3]? := hk 3 _ rfl
    have g4 : DataW.trod enc Tryz.prog W b0 sp hd n2 2 (([c0, c1, c2, c3, c4].drop 4).take (Tryz.prog.cellsOf 2)) = zs[4]? := hk 4 _ rfl
    have z0 : zs[0]? = some (zs[0]'(by rw [hzl]; decide)) := List.getElem?_eq_getElem _
    have z1 : zs[1]? = some (zs[1]'(by rw [hzl]; decide)) := List.getElem?_eq_getElem _
    have z2 : zs[2]? = some (zs[2]'(by rw [hzl]; decide)) := List.getElem?_eq_getElem _
    have z3 : zs[3]? = some (zs[3]'(by rw [hzl]; decide)) := List.getElem?_eq_getElem _
    have z4 : zs[4]? = some (zs[4]'(by rw [hzl]; decide)) := List.getElem?_eq_getElem _
    simp only [e2, List.drop_zero, List.drop_succ_cons, List.take_succ_cons, List.take_zero] at g0 g1 g2 g3 g4
    obtain ⟨a0, rfl, w0⟩ := trod_int' Tryz.underlying2 (g0.trans z0)
    obtain ⟨a1, rfl, w1⟩ := trod_int' Tryz.underlying2 (g1.trans z1)
    obtain ⟨a2, rfl, w2⟩ := trod_int' Tryz.underlying2 (g2.trans z2)
    obtain ⟨a3, rfl, w3⟩ := trod_int' Tryz.underlying2 (g3.trans z3)
    obtain ⟨a4, rfl, w4⟩ := trod_int' Tryz.underlying2 (g4.trans z4)
    exact ⟨a0, a1, a2, a3, a4, a5, a6, rfl⟩
end Go.Proofs.YtnefgafmnpblpaaGreat
