/- What reads a beam out of a text, reference. Condition: the text is at most 2^20 bytes long. -/
import Derived.Test.YtajodbhbmfjmjaaGreatDoorBeamW
import Derived.Test.YtajodbhbmfjmjaaGreatDoorWords
import Derived.Test.YtajodbhbmfjmjaaGreatDoorSrc
namespace Go.Proofs.YtajodbhbmfjmjaaGreatDoor
open Go.RowKit Go.Lib

theorem infoA_Load : (Tryz.prog.info? 31).map (fun i => (i.zero, i.size, i.bytes)) = some (some (.agg #[.int .i64 0, .int .i64 0]), 2, 16) := by kernel_rfl
theorem one_Load (x : LoadR) : ∀ u ∈ encLoad x, u.oneCell' = true := by intro u hu; simp [encLoad] at hu; rcases hu with rfl | rfl <;> rfl
set_option maxRecDepth 100000 in
theorem wpList_appLoad {w : World} {ops : Array Oper} {rest : List Oper} {o : Oper} {a : Act} {Q : Exit → Act → World → Prop} (hgd : o.guard = none) (s x : Operand) (ho : o.op = .call { callee := .builtin .append, args := #[s, x], argTypes := #[24, 24] }) (B : Nat) {v : Value} {xs : List LoadR} (hs : a.eval s = v)
    (hown : Own encLoad 2 31 w B v xs) {y0 : Int} {y1 : Int} {b : Nat} (hx : a.eval x = .slice (some ⟨b, 0, none⟩) 1 1) (hn : xs.length ≤ 1048576) (hB : B ≤ w.heap.size)
    (h : ∀ (A : Option Addr) (c : Nat) (w' : World), Own encLoad 2 31 w' B (.slice A (xs.length + 1) c) (xs ++ [⟨y0, y1⟩]) → Below B w w' → w.grownBy w' v.ownBlock → wpList Tryz.prog ops Q rest (a.put o.dst (.slice A (xs.length + 1) c)) w') (hbk : b = w.heap.size := by first | rfl | simp) : wpList Tryz.prog ops Q (o :: rest) a (w.alloc (.cells #[.int .i64 y0, .int .i64 y1] 31)) := by
  subst hbk
  obtain ⟨i0, hi, hz0, hz1, hz2⟩ := info_parts infoA_Load
  have hb0 : Below w.heap.size w (w.alloc (.cells #[.int .i64 y0, .int .i64 y1] 31)) := (Below.refl _ _).alloc (Nat.le_refl _) _
  refine wpList_app Tryz.underlying24 hi hz0 hz1 hz2 rfl (by omega) (by omega) (fun _ => rfl) hgd s x ho B hs (hown.below hb0) ⟨y0, y1⟩ (one_Load _) hx (fun j u hj => ?_) hn (by simp; omega) fun A c w' h1 h2 h3 => h A c w' h1 ((hb0.mono hB).trans h2) (grown_trans (grown_of_below hb0 _) h3)
  match j, hj with
  | 0, hj => injection hj with hj; subst hj; simp [Addr.add]
  | 1, hj => injection hj with hj; subst hj; simp [Addr.add]
theorem own_far {α : Type} {enc : α → List Value} {sz : Nat} {T : TypeId} {w : World} {B R : Nat} {v : Value} {xs : List α} (hR : R < B) (h : Own enc sz T w B v xs) (j : Nat) (u : Value) : Own enc sz T (w.setCell ⟨R, j, none⟩ u) B v xs :=
  h.kept (grown_set (grown_refl _ (some R)) j u) (by
    cases hv : v.ownBlock with
    | none => exact .inl rfl
    | some g => exact .inr fun e => by have := (h.lt g hv).1; injection e with e; omega)
/-- A beam that the call builds in a block of its own, its loads in a row of the call's own; all that lay before is as in W0. -/
structure BmSt (W0 w : World) (nm : ByteArray) (x1 x2 x3 x4 : Int) (A : Option Addr) (c : Nat) (ls : List LoadR) : Prop where
  bel : Below W0.heap.size W0 w
  q : w.heap[W0.heap.size]? = some (.cells #[.string nm, .int .i64 x1, .int .i64 x2, .int .i64 x3, .int .i64 x4, .slice A ls.length c] 26 (0, 0))
  own : Own encLoad 2 31 w (W0.heap.size + 1) (.slice A ls.length c) ls
section
variable {W0 w w' : World} {nm : ByteArray} {x1 x2 x3 x4 : Int} {A : Option Addr} {c : Nat} {ls : List LoadR}
theorem BmSt.start (W0 : World) (nm : ByteArray) (x1 x2 x3 x4 : Int) : BmSt W0 (W0.alloc (.cells #[.string nm, .int .i64 x1, .int .i64 x2, .int .i64 x3, .int .i64 x4, .slice none 0 0] 26)) nm x1 x2 x3 x4 none 0 [] :=
  ⟨(Below.refl _ _).alloc (Nat.le_refl _) _, heap_alloc_new W0 _, Own.nil⟩
theorem BmSt.lt (h : BmSt W0 w nm x1 x2 x3 x4 A c ls) : W0.heap.size < w.heap.size := (Array.getElem?_eq_some_iff.1 h.q).1
theorem BmSt.below (h : BmSt W0 w nm x1 x2 x3 x4 A c ls) (hb : Below w.heap.size w w') : BmSt W0 w' nm x1 x2 x3 x4 A c ls :=
  ⟨h.bel.trans (hb.mono (Nat.le_of_lt h.lt)), (hb.block _ h.lt).trans h.q, h.own.below hb⟩
theorem BmSt.cell (h : BmSt W0 w nm x1 x2 x3 x4 A c ls) (j : Nat) (v : Value) (hv : (#[.string nm, .int .i64 x1, .int .i64 x2, .int .i64 x3, .int .i64 x4, .slice A ls.length c] : Array Value)[j]? = some v) : w.cell? ⟨W0.heap.size, j, none⟩ = some v := by simp [World.cell?, h.q, hv]
theorem BmSt.froz (h : BmSt W0 w nm x1 x2 x3 x4 A c ls) (j : Nat) : w.frozen? ⟨W0.heap.size, j, none⟩ = false := by simp [World.frozen?, h.q]
theorem BmSt.push (h : BmSt W0 w nm x1 x2 x3 x4 A c ls) {A' : Option Addr} {c' : Nat} {x : LoadR} (ho : Own encLoad 2 31 w' (W0.heap.size + 1) (.slice A' (ls ++ [x]).length c') (ls ++ [x])) (hb : Below (W0.heap.size + 1) w w') :
    BmSt W0 (w'.setCell ⟨W0.heap.size, 5, none⟩ (.slice A' (ls ++ [x]).length c')) nm x1 x2 x3 x4 A' c' (ls ++ [x]) :=
  ⟨(h.bel.trans (hb.mono (by omega))).setCell (Nat.le_refl _) _, by
    have hq := (hb.block W0.heap.size (by omega)).trans h.q
    simp [World.setCell, Array.getElem?_modify, hq], own_far (by omega) ho 5 _⟩
theorem BmSt.slat (h : BmSt W0 w nm x1 x2 x3 x4 A c ls) : SlAt encLoad 2 w A ls := Own.at_ (fun _ => rfl) h.own
end
theorem zbm_eq {l : List UInt8} (h : Hid (bmV l = ⟨⟨#[]⟩, 0, 0, 0, 0, []⟩) ∧ Hid (bmOk l = false)) : Ending.returned (.tuple #[.agg #[.string ⟨#[]⟩, .int .i64 0, .int .i64 0, .int .i64 0, .int .i64 0, .slice none 0 0], .bool false]) = .returned (.tuple #[.agg #[.string (bmV l).nm, .int .i64 (bmV l).x1, .int .i64 (bmV l).x2, .int .i64 (bmV l).x3, .int .i64 (bmV l).x4, .slice none (bmV l).ls.length 0], .bool (bmOk l)]) := by
  rw [h.1.out, h.2.out]; rfl
theorem zbm_own {l : List UInt8} {w : World} {B : Nat} (h : Hid (bmV l = ⟨⟨#[]⟩, 0, 0, 0, 0, []⟩) ∧ Hid (bmOk l = false)) : Own encLoad 2 31 w B (.slice none (bmV l).ls.length 0) (bmV l).ls := by
  rw [h.1.out]; exact Own.nil
theorem part_at {s : ByteArray} {c : UInt8} {k : Nat} {p : List UInt8} (h : (splitL c s.data.toList)[k]? = some p) (hk : k < (partsB s c).length) : (partsB s c)[k] = ⟨p.toArray⟩ := by
  have h1 := partsB_get s c k hk
  rw [h] at h1
  injection h1 with h1
  rw [h1]
theorem ldO_len {p : List UInt8} (h : (splitL 64 p).length ≠ 2) : ldO p = none := by
  unfold ldO
  split
  · rename_i hs
    rw [hs] at h
    simp at h
  · rfl
theorem ld_bad {s : ByteArray} {a b : List UInt8} {r : List (List UInt8)} {k : Nat} {p : ByteArray} (hs : splitL 32 s.data.toList = a :: b :: r) (h2 : 2 ≤ k) (hg : (splitL 32 s.data.toList)[k]? = some p.data.toList) (h : ldO p.data.toList = none) : allO ldO r = none := by
  refine allO_bad (k := k - 2) (p := p.data.toList) ?_ h
  rw [hs] at hg
  obtain ⟨j, rfl⟩ : ∃ j, k = j + 2 := ⟨k - 2, by omega⟩
  simpa using hg
theorem ld_step2 {s : ByteArray} {k : Nat} {p : ByteArray} {ls : List LoadR} {x : LoadR} (h2 : 2 ≤ k) (hl : allO ldO (((splitL 32 s.data.toList).take k).drop 2) = some ls) (hg : (splitL 32 s.data.toList)[k]? = some p.data.toList) (h : ldO p.data.toList = some x) : allO ldO (((splitL 32 s.data.toList).take (k + 1)).drop 2) = some (ls ++ [x]) := by
  have hk := (List.getElem?_eq_some_iff.1 hg).1
  rw [List.take_add_one, hg]
  simp only [Option.toList_some]
  rw [List.drop_append_of_le_length (by rw [List.length_take]; omega), allO_snoc, hl, h]
theorem ldO_nums {p u v : List UInt8} {x y : Int} (hs : splitL 64 p = [u, v]) (h : ldO p = some ⟨y, x⟩) : numO u = some x ∧ numO v = some y := by
  unfold ldO at h
  rw [hs] at h
  simp only at h
  cases hu : numO u with
  | none => rw [hu] at h; simp at h
  | some a =>
    rw [hu] at h
    simp only at h
    cases hv : numO v with
    | none => rw [hv] at h; simp at h
    | some b =>
      rw [hv] at h
      simp only [Option.some.injEq, LoadR.mk.injEq] at h
      rw [h.1, h.2]
      exact ⟨rfl, rfl⟩
theorem ld_all {s : ByteArray} {a b : List UInt8} {r : List (List UInt8)} {ls : List LoadR} {k : Nat} {p : List UInt8} (hs : splitL 32 s.data.toList = a :: b :: r) (h : allO ldO r = some ls) (h2 : 2 ≤ k) (hg : (splitL 32 s.data.toList)[k]? = some p) : ∃ q, ldO p = some q := by
  rw [hs] at hg
  obtain ⟨j, rfl⟩ : ∃ j, k = j + 2 := ⟨k - 2, by omega⟩
  have hg2 : r[j]? = some p := by simpa using hg
  obtain ⟨h1, h3⟩ := (allO_iff r ls).1 h
  have hj := (List.getElem?_eq_some_iff.1 hg2).1
  exact ⟨ls[j]'(by omega), h3 j p _ hg2 (List.getElem?_eq_getElem (by omega))⟩
end Go.Proofs.YtajodbhbmfjmjaaGreatDoor
