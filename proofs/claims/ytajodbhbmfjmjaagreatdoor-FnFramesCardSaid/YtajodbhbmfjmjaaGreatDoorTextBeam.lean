/- The text of a beam, on both sides. Conditions: the beam has at most 1048576 loads; its name is no longer than a Go string can be; its loads lie in memory; the library's table of powers of ten is laid. -/
import Derived.Test.YtajodbhbmfjmjaaGreatDoorTexts
import Derived.Test.YtajodbhbmfjmjaaGreatDoorBeam2
import Derived.Deep.AppendLies
namespace Go.Proofs.YtajodbhbmfjmjaaGreatDoor
open Go.RowKit Go.Lib

theorem own_lit {α : Type} {enc : α → List Value} {T : TypeId} {B : Nat} (w : World) (xs : List α) (cs : Array Value) (hB : B ≤ w.heap.size) (he : ∀ x, (enc x).length = 1) (hc : cs.toList = xs.flatMap enc) (hm : xs.length ≤ maxLen) :
    Own enc 1 T (w.alloc (.cells cs T)) B (.slice (some ⟨w.heap.size, 0, none⟩) xs.length xs.length) xs := by
  have hl := flat_length he xs
  refine ⟨hl, .inr ⟨w.heap.size, xs.length, cs, rfl, hB, heap_alloc_new w _, Nat.le_refl _, hm, ?_, ?_⟩⟩
  · rw [← Array.length_toList, hc]; exact hl
  · rw [hc, ← hl, List.take_length]
set_option maxRecDepth 100000 in
/-- An append of one string, as a step of a region that draws its order. -/
theorem step_appStr {w : World} {ops : Array Oper} {o : Oper} {a : Act} {K : Act → World → Prop} {Q : Exit → Act → World → Prop} {E : Prop} (hgd : o.guard = none) (s x : Operand) (ho : o.op = .call { callee := .builtin .append, args := #[s, x], argTypes := #[49, 49] }) (B : Nat) {v : Value} {xs : List ByteArray} (hs : a.eval s = v)
    (hown : OwnS w B v xs) {y : ByteArray} (hx : a.eval x = .slice (some ⟨w.heap.size, 0, none⟩) 1 1) (hn : xs.length ≤ 1048576) (hB : B ≤ w.heap.size)
    (h : ∀ (A : Option Addr) (c : Nat) (w' : World), OwnS w' B (.slice A (xs.length + 1) c) (xs ++ [y]) → Below B (w.alloc (.cells #[.string y] 9)) w' → (w.alloc (.cells #[.string y] 9)).grownBy w' v.ownBlock → K (a.put o.dst (.slice A (xs.length + 1) c)) w') : if Region.wanted o (yielded ops a.tmps) = true then Oper.wp Tryz.prog o a (w.alloc (.cells #[.string y] 9)) K Q else E := by
  obtain ⟨i0, hi, hz0, hz1, hz2⟩ := info_parts info_str
  have hb0 : Below w.heap.size w (w.alloc (.cells #[.string y] 9)) := (Below.refl _ _).alloc (Nat.le_refl _) _
  have hO := hown.below hb0
  refine step_append_lies _ hgd s x _ ho B 9 i0 _ 1 16 Tryz.underlying49 hi hz0 hz1 hz2 rfl (by omega) v xs.length (xs.flatMap encStr) hs hO ⟨w.heap.size, 0, none⟩ 1 1 [.string y] hx rfl (World.news_of_block (cs := #[.string y]) (heap_alloc_new w _)) (by simp [Value.oneCell']) (by omega) (by unfold maxLen; omega) (by omega) (by simp; omega) _ rfl ?_
  intro g cap w' h1 h2 _ _
  refine h _ cap w' ?_ (Below.grown (Below.refl _ _) h2 (by simp; omega) fun k hk => (Own.lt hO k hk).1) h2
  unfold OwnS Own
  rw [List.length_append, List.flatMap_append]
  simpa using h1

/-- A load as text. -/
def ldW (x : LoadR) : List UInt8 := itoa x.wt ++ [64] ++ itoa x.at_
/-- A beam as text, with its first k loads. -/
def bmW (nm : ByteArray) (l4 : List Int) (ls : List LoadR) (k : Nat) : List UInt8 := Lib.join (nm.data.toList :: rowText l4 :: (ls.take k).map ldW) [32]
theorem bmW_zero (nm : ByteArray) (l4 : List Int) (ls : List LoadR) : (⟨(bmW nm l4 ls 0).toArray⟩ : ByteArray) = twoW nm l4 := by
  unfold bmW twoW
  rw [List.take_zero, List.map_nil, join_cons2, Lib.join_one]
  exact Go.WideShapes.bytes_inj (by simp)
theorem bmW_succ (nm : ByteArray) (l4 : List Int) (ls : List LoadR) (k : Nat) (h : k < ls.length) : bmW nm l4 ls (k + 1) = bmW nm l4 ls k ++ [32] ++ ldW ls[k] := by
  unfold bmW
  rw [List.take_succ_eq_append_getElem h, List.map_append, List.map_singleton]
  exact join_snoc [32] (ldW ls[k]) (nm.data.toList :: rowText l4 :: (ls.take k).map ldW) (by simp)
theorem str_load (K a b : List UInt8) : (⟨K.toArray⟩ : ByteArray) ++ (((⟨#[32]⟩ ++ ⟨a.toArray⟩) ++ ⟨#[64]⟩) ++ ⟨b.toArray⟩) = ⟨(K ++ [32] ++ (a ++ [64] ++ b)).toArray⟩ := Go.WideShapes.bytes_inj (by simp)
theorem str_ld (a b : List UInt8) : ((⟨a.toArray⟩ : ByteArray) ++ ⟨#[64]⟩) ++ ⟨b.toArray⟩ = ⟨(a ++ [64] ++ b).toArray⟩ := Go.WideShapes.bytes_inj (by simp)
theorem ldW_len {x : LoadR} (h0 : -9223372036854775808 ≤ x.wt ∧ x.wt ≤ 9223372036854775807) (h1 : -9223372036854775808 ≤ x.at_ ∧ x.at_ ≤ 9223372036854775807) : (ldW x).length ≤ 41 := by
  have := itoa_length_le h0.1 h0.2
  have := itoa_length_le h1.1 h1.2
  unfold ldW
  simp
  omega
theorem bmW_len {nm : ByteArray} {l4 : List Int} {ls : List LoadR} (h4 : l4.length = 4) (hs : nm.size ≤ 10) (hx : ∀ x ∈ l4, -9223372036854775808 ≤ x ∧ x ≤ 9223372036854775807) (hl : ∀ x ∈ ls, (-9223372036854775808 ≤ x.at_ ∧ x.at_ ≤ 9223372036854775807) ∧ -9223372036854775808 ≤ x.wt ∧ x.wt ≤ 9223372036854775807) (k : Nat) (hk : k ≤ ls.length) : (bmW nm l4 ls k).length ≤ 99 + 42 * k := by
  induction k with
  | zero =>
    have := rowText_len (xs := l4) (by rintro rfl; simp at h4) hx
    unfold bmW
    rw [List.take_zero, List.map_nil, join_cons2, Lib.join_one]
    simp
    omega
  | succ k ih =>
    have h := hl ls[k] (List.getElem_mem (by omega))
    have := ldW_len h.2 h.1
    have := ih (by omega)
    rw [bmW_succ _ _ _ _ (by omega)]
    simp
    omega
/-- The text of a beam, empty if it is not valid. -/
noncomputable def txBeam (nm : ByteArray) (span wd dp wood : Int) (ls : List LoadR) : ByteArray := if vBeam nm span wd dp wood ls = true then ⟨(bmW nm [span, wd, dp, wood] ls ls.length).toArray⟩ else ByteArray.empty
theorem vBeam_vals {nm : ByteArray} {span wd dp wood : Int} {ls : List LoadR} (h : vBeam nm span wd dp wood ls = true) : nm.size ≤ 10 ∧ (∀ x ∈ [span, wd, dp, wood], -1000000000000 ≤ x ∧ x ≤ 1000000000000) ∧ ls.length ≤ 8 ∧ ∀ x ∈ ls, (-9223372036854775808 ≤ x.at_ ∧ x.at_ ≤ 9223372036854775807) ∧ -9223372036854775808 ≤ x.wt ∧ x.wt ≤ 9223372036854775807 := by
  have h2 := vBeam_true h
  obtain ⟨a, b, c, d, e, f, g, _⟩ := h2
  exact ⟨name_size a, by simp; omega, g, fun x hx => by have := f x hx; omega⟩

end Go.Proofs.YtajodbhbmfjmjaaGreatDoor
