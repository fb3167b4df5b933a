/- What a call may lean on of the library's own variables (the table of powers of ten, the two sentinels, a length), that this holds on in later worlds; the library's contracts as the walks take them. -/
import Derived.Test.YtajodbhbmfjmjaaGreatDoorInts
import Derived.Test.YtajodbhbmfjmjaaGreatDoorTxt
import Derived.Test.YtajodbhbmfjmjaaGreatDoorShelf
import Derived.WalkSmall
import Derived.Shelf.Strconv.ErrVarParseInt
import Derived.Lib.SmallJoins
namespace Go.Proofs.YtajodbhbmfjmjaaGreatDoor
open Go.RowKit Go.Lib

structure EnvT (w : World) : Prop where
  tab : Lib.TabIs Tryz.prog w "internal/strconv.uint64pow10" .u64 Lib.pow10Tab
theorem var_below {w w' : World} {n : String} {cs : Array Value} (h : w.var? Tryz.prog n = some cs) (hb : Below w.heap.size w w') : w'.var? Tryz.prog n = some cs := by
  unfold World.var? at h ⊢
  cases hg : Tryz.prog.globalNamed n with
  | none => rw [hg] at h; simp at h
  | some g =>
    rw [hg] at h
    simp only [Option.bind_some] at h ⊢
    have hlt : g < w.heap.size := by
      cases hh : w.heap[g]? with
      | none => rw [hh] at h; simp at h
      | some o => exact (Array.getElem?_eq_some_iff.1 hh).1
    rw [hb.block g hlt]
    exact h
theorem EnvT.below {w w' : World} (h : EnvT w) (hb : Below w.heap.size w w') : EnvT w' := ⟨var_below h.tab hb⟩
structure Env (w : World) : Prop where
  t : EnvT w
  es : ∃ (tp : TypeId) (p : Value), w.var? Tryz.prog "strconv.ErrSyntax" = some #[.iface tp p]
  er : ∃ (tp : TypeId) (p : Value), w.var? Tryz.prog "strconv.ErrRange" = some #[.iface tp p]
  ml : ∃ m : Int, w.cell? ⟨0, 0, none⟩ = some (.int .i64 m)
theorem Env.below {w w' : World} (h : Env w) (hb : Below w.heap.size w w') : Env w' where
  t := h.t.below hb
  es := by
    obtain ⟨tp, p, e⟩ := h.es
    exact ⟨tp, p, var_below e hb⟩
  er := by
    obtain ⟨tp, p, e⟩ := h.er
    exact ⟨tp, p, var_below e hb⟩
  ml := by
    obtain ⟨m, e⟩ := h.ml
    exact ⟨m, (hb.cell (World.block_lt_of_cell? w _ e)).trans e⟩
abbrev encStr (s : ByteArray) : List Value := [.string s]
abbrev OwnS (w : World) (B : Nat) (v : Value) (xs : List ByteArray) : Prop := Own encStr 1 9 w B v xs
theorem info_str : (Tryz.prog.info? 9).map (fun i => (i.zero, i.size, i.bytes)) = some (some (.string ByteArray.empty), 1, 16) := by kernel_rfl
set_option maxRecDepth 100000 in
theorem wpList_appStr {w : World} {ops : Array Oper} {rest : List Oper} {o : Oper} {a : Act} {Q : Exit → Act → World → Prop} (hgd : o.guard = none) (s x : Operand) (ho : o.op = .call { callee := .builtin .append, args := #[s, x], argTypes := #[49, 49] }) (B : Nat) {v : Value} {xs : List ByteArray} (hs : a.eval s = v)
    (hown : OwnS w B v xs) {y : ByteArray} (hx : a.eval x = .slice (some ⟨w.heap.size, 0, none⟩) 1 1) (hn : xs.length ≤ 1048576) (hB : B ≤ w.heap.size)
    (h : ∀ (A : Option Addr) (c : Nat) (w' : World), OwnS w' B (.slice A (xs.length + 1) c) (xs ++ [y]) → Below B w w' → w.grownBy w' v.ownBlock → wpList Tryz.prog ops Q rest (a.put o.dst (.slice A (xs.length + 1) c)) w') : wpList Tryz.prog ops Q (o :: rest) a (w.alloc (.cells #[.string y] 9)) := by
  obtain ⟨i0, hi, hz0, hz1, hz2⟩ := info_parts info_str
  have hb0 : Below w.heap.size w (w.alloc (.cells #[.string y] 9)) := (Below.refl _ _).alloc (Nat.le_refl _) _
  refine wpList_app Tryz.underlying49 hi hz0 hz1 hz2 rfl (by omega) (by omega) (fun _ => rfl) hgd s x ho B hs (hown.below hb0) y (fun u hu => by simp at hu; subst hu; rfl) hx (fun j u hj => ?_) hn (by simp; omega) fun A c w' h1 h2 h3 => h A c w' h1 ((hb0.mono hB).trans h2) (grown_trans (grown_of_below hb0 _) h3)
  match j, hj with
  | 0, hj => injection hj with hj; subst hj; simp [Addr.add]
theorem below_growN (w : World) (k : Nat) (os : Array Obj) : Below w.heap.size w (Go.Sort.grow (w.drewN k) os) := ⟨rfl, rfl, rfl, by simp [Go.Sort.grow, World.drewN], fun j hj => by simp [Go.Sort.grow, World.drewN, Array.getElem?_append_left hj]⟩
theorem fmtInt (n : Int) (w : World) (hE : EnvT w) (h0 : -9223372036854775808 ≤ n) (h1 : n ≤ 9223372036854775807) :
    Calls Tryz.prog 52 #[.int .i64 n, .int .i64 10] w fun e w' => e = .returned (.string ⟨(itoa n).toArray⟩) ∧ Below w.heap.size w w' :=
  (Tryz.strconv_FormatInt_10 n h0 h1 w hE.tab).mono fun _ _ ⟨he, k, os, hw⟩ => ⟨he, by rw [hw]; exact below_growN w k os⟩
theorem implDecimal (n : Int) (w : World) (hE : EnvT w) (h0 : -9223372036854775808 ≤ n) (h1 : n ≤ 9223372036854775807) :
    Calls Tryz.prog 30 #[.int .i64 n] w fun e w' => e = .returned (.string ⟨(itoa n).toArray⟩) ∧ Below w.heap.size w w' := by
  go_enter Tryz.func30, Tryz.ntmps30
  go_wp2_with (go_at_call 52; refine (fmtInt n _ hE h0 h1).mono ?_; rintro e w1 ⟨rfl, hb1⟩)
  go_ret
  exact ⟨rfl, (by repeat (first | with_reducible exact Below.refl _ _ | with_reducible assumption | (with_reducible refine Below.drew ?_) | (with_reducible refine below_drewN ?_ _) | ((with_reducible refine Below.alloc ?_ ?_ _); rotate_left; (focus (first | omega | (simp; omega) | simp))) | ((with_reducible refine Below.setCell ?_ ?_ _); rotate_left; (focus (first | omega | (simp; omega) | simp))) | (refine Below.trans ?_ (Below.mono (by assumption) (by first | omega | (simp; omega) | simp)))))⟩
theorem own_cap {w : World} {B : Nat} {A : Option Addr} {c : Nat} {xs : List ByteArray} (h : OwnS w B (.slice A xs.length c) xs) : xs.length ≤ c := by
  rcases h.2 with ⟨h1, h0⟩ | ⟨g, cap, cur, h1, _, _, h2, _⟩
  · omega
  · injection h1 with _ _ h1
    omega
theorem joinOwn {w : World} {B : Nat} {A : Option Addr} {c : Nat} {xs : List ByteArray} (sep : ByteArray) (h : OwnS w B (.slice A xs.length c) xs) (hn : xs.length ≤ 1048576) (hlen : (Lib.join (xs.map (·.data.toList)) sep.data.toList).length ≤ 140737488355328) :
    Calls Tryz.prog 31 #[.slice A xs.length c, .string sep] w fun e w' => e = .returned (.string ⟨(Lib.join (xs.map (·.data.toList)) sep.data.toList).toArray⟩) ∧ Below w.heap.size w w' := by
  cases xs with
  | nil => exact (Tryz.strings_Join_none A c sep w).mono fun _ _ ⟨he, hw⟩ => ⟨by rw [he]; rfl, by rw [hw]; exact Below.refl _ _⟩
  | cons x xs =>
    have hs : SlAt encStr 1 w A (x :: xs) := Own.at_ (fun _ => rfl) h
    have hc := own_cap h
    obtain ⟨g, off, rfl, hg, _⟩ := hs 0 (by simp)
    refine Tryz.strings_Join g off c (x :: xs) sep w (fun j y hj => ?_) hg (by omega) hc hlen
    have hjl := (List.getElem?_eq_some_iff.1 hj).1
    obtain ⟨g2, off2, e2, _, h2⟩ := hs j hjl
    injection e2 with e2
    injection e2 with e3 e4
    subst e3; subst e4
    have h3 := h2 0 _ rfl
    have e5 : (x :: xs)[j] = y := (List.getElem?_eq_some_iff.1 hj).2
    rw [e5] at h3
    simpa using h3
theorem cutAt (s sep : ByteArray) (w : World) (hE : Env w) (hs : s.size < 4294967281) :
    Calls Tryz.prog 27 #[.string s, .string sep] w fun e w' => e = .returned (.tuple #[.string ⟨(Lib.cut s.data.toList sep.data.toList).1.toArray⟩, .string ⟨(Lib.cut s.data.toList sep.data.toList).2.1.toArray⟩, .bool (Lib.cut s.data.toList sep.data.toList).2.2]) ∧ Below w.heap.size w w' := by
  obtain ⟨m, hm⟩ := hE.ml
  exact (Tryz.strings_Cut s sep m w hs hm).mono fun _ _ ⟨he, n, hw⟩ => ⟨he, by rw [hw]; exact below_drewN (Below.refl _ _) n⟩
theorem split_bytes (s : ByteArray) (c : UInt8) : (Lib.splitB ⟨#[c]⟩ 0 (Lib.countB s ⟨#[c]⟩) s).map (·.data.toList) = splitL c s.data.toList := by
  rw [Lib.splitB_data]
  exact split_eq c _ _ rfl
/-- The parts of a text, as the library hands them back. -/
def partsB (s : ByteArray) (c : UInt8) : List ByteArray := (splitL c s.data.toList).map fun l => ⟨l.toArray⟩
theorem bytes_ext {a b : ByteArray} (h : a.data.toList = b.data.toList) : a = b := Go.WideShapes.bytes_inj h
theorem partsB_eq (s : ByteArray) (c : UInt8) : Lib.splitB ⟨#[c]⟩ 0 (Lib.countB s ⟨#[c]⟩) s = partsB s c := by
  have h := split_bytes s c
  unfold partsB
  rw [← h, List.map_map]
  conv => lhs; rw [← List.map_id (Lib.splitB ⟨#[c]⟩ 0 (Lib.countB s ⟨#[c]⟩) s)]
  apply List.map_congr_left
  intro x _
  rfl
theorem splitAt1 (s : ByteArray) (c : UInt8) (w : World) (hE : Env w) (hs : s.size < 4294967281) :
    Calls Tryz.prog 25 #[.string s, .string ⟨#[c]⟩] w fun e w' => e = .returned (.slice (some ⟨w.heap.size, 0, none⟩) (partsB s c).length (partsB s c).length) ∧ SlAt encStr 1 w' (some ⟨w.heap.size, 0, none⟩) (partsB s c) ∧ Below w.heap.size w w' := by
  obtain ⟨m, hm⟩ := hE.ml
  refine (Tryz.strings_Split s ⟨#[c]⟩ m w hs hm (Nat.le_refl 1)).mono fun _ _ ⟨he, hw⟩ => ?_
  have hl : Lib.countB s ⟨#[c]⟩ + 1 = (partsB s c).length := by
    rw [← partsB_eq, Lib.splitB_all ⟨#[c]⟩ (Nat.le_refl 1) 0 _ s rfl]
  rw [partsB_eq] at hw
  rw [hl] at he
  refine ⟨he, ?_, by rw [hw]; exact (Below.refl _ _).alloc (Nat.le_refl _) _⟩
  intro k hk
  refine ⟨w.heap.size, 0, rfl, by rw [hw]; simp, fun j v hj => ?_⟩
  match j, hj with
  | 0, hj =>
    injection hj with hj
    subst hj
    rw [hw]
    simp [hk]
theorem parseOk (s : ByteArray) (v : Int) (w : World) (hs : s.size ≤ 1048576) (h : Lib.parseIntB 64 s.data.toList = .ok v) :
    Calls Tryz.prog 48 #[.string s, .int .i64 10, .int .i64 64] w fun e w' => e = .returned (.tuple #[.int .i64 v, .nilIface]) ∧ Below w.heap.size w w' :=
  (Tryz.strconv_ParseInt_10_at64_ok s (by omega) v h w).mono fun _ _ ⟨he, hw⟩ => ⟨he, by
    rcases hw with rfl | ⟨t, rfl⟩
    · exact Below.refl _ _
    · exact Go.Joins.below_bytesWorld _ _ _ _ (Nat.le_refl _)⟩
theorem parseBad (s : ByteArray) (w : World) (hE : Env w) (hs : s.size ≤ 1048576) (h : ∀ v, Lib.parseIntB 64 s.data.toList ≠ .ok v) :
    Calls Tryz.prog 48 #[.string s, .int .i64 10, .int .i64 64] w fun e w' => (∃ (n : Int) (tp : TypeId) (N : Nat), e = .returned (.tuple #[.int .i64 n, .iface tp (.pointer (some ⟨N, 0, none⟩))])) ∧ Below w.heap.size w w' := by
  cases hp : Lib.parseIntB 64 s.data.toList
  · exact absurd hp (h _)
  · obtain ⟨tp, p, hv⟩ := hE.es
    exact (Any.strconv_ParseInt_10_at64_syntax_var Tryz.laysC174 s (by omega) hp tp p w hv).mono fun _ _ ⟨N, he, _, _, hb⟩ => ⟨⟨_, _, N, he⟩, hb⟩
  · obtain ⟨tp, p, hv⟩ := hE.er
    exact (Any.strconv_ParseInt_10_at64_range_var Tryz.laysC174 s (by omega) hp tp p w hv).mono fun _ _ ⟨N, he, _, _, hb⟩ => ⟨⟨_, _, N, he⟩, hb⟩
end Go.Proofs.YtajodbhbmfjmjaaGreatDoor
