/- Sorting at this translation: a row of places by what stands at them, stably; a row of numbers. -/
import Derived.Test.YtjklhacffdhgaaaShelf
import Derived.Test.YtjklhacffdhgaaaMoS
import Derived.Test.YtjklhacffdhgaaaRowI
import Derived.Shelf.SlSortCmp.Insertion
namespace Go.Proofs.Ytjklhacffdhgaaa
open Go.RowKit Go.Sort Go.Shelf

section
variable {α : Type} [Inhabited α]
theorem flat_encI (ys : List Int) : ys.flatMap encI = ys.map (Value.int .i64) := by
  induction ys with
  | nil => rfl
  | cons y l ih => rw [List.flatMap_cons, List.map_cons, ih]; rfl
theorem putCells_size (enc : α → Value) (d : Array α) (c : Array Value) : (putCells enc 0 d c).size = c.size := by simp [putCells]
theorem putRow_block (enc : α → Value) (w : World) (g : Nat) (d : Array α) {cur : Array Value} {e : TypeId} {fr : Nat × Nat} (h : w.heap[g]? = some (.cells cur e fr)) : (putRow enc w g 0 d).heap[g]? = some (.cells (putCells enc 0 d cur) e fr) := by
  simp [putRow, mapBlock, Array.getElem?_modify, h, onCells]
theorem putRow_block_other (enc : α → Value) (w : World) (g : Nat) (d : Array α) {k : Nat} (hk : k ≠ g) : (putRow enc w g 0 d).heap[k]? = w.heap[k]? := by
  simp [putRow, mapBlock, Array.getElem?_modify, Ne.symm hk]
/-- A row of the call's own after its cells were put anew. -/
theorem own_put {w w' : World} {B n c : Nat} {A : Option Addr} {xs ys : List Int} (enc : α → Value) (g : Nat) (d : Array α) (h : OwnI w B (.slice A n c) xs) (hn : n = xs.length) (hA : A = some ⟨g, 0, none⟩) (hd : d.size = n) (hy : ys.length = n) (he : ∀ j (hj : j < ys.length), enc d[j]! = .int .i64 ys[j])
    (hw : w'.heap[g]? = (putRow enc w g 0 d).heap[g]?) : OwnI w' B (.slice A n c) ys := by
  subst hA
  obtain ⟨h1, h2⟩ := h
  rcases h2 with ⟨e, h0⟩ | ⟨g2, cap, cur, e, hB, hc, hle, hmx, hsz, htk⟩
  · cases e
  · injection e with e1 e2 e3
    injection e1 with e1
    injection e1 with e1
    subst e1
    subst e3
    rw [putRow_block enc w g d hc] at hw
    refine ⟨by rw [flat_length (enc := encI) (sz := 1) (fun _ => rfl)], .inr ⟨g, c, _, by rw [hy], hB, hw, by omega, hmx, by rw [putCells_size]; exact hsz, ?_⟩⟩
    rw [flat_encI]
    refine List.ext_getElem? fun j => ?_
    by_cases hj : j < ys.length
    · have hjc : j < cur.size := by omega
      rw [List.getElem?_take_of_lt (by omega), List.getElem?_map, List.getElem?_eq_getElem hj, Array.getElem?_toList]
      simp only [putCells, Array.getElem?_mapIdx, Array.getElem?_eq_getElem hjc, Option.map_some, Nat.zero_le, true_and, Nat.zero_add, Nat.sub_zero]
      rw [if_pos (by omega), he j hj]
    · rw [List.getElem?_eq_none (by simp; omega), List.getElem?_eq_none (by simp; omega)]
theorem put_grown {w w' : World} (enc : α → Value) (g : Nat) (d : Array α) (ho : w'.os = w.os) (ht : w'.tape = w.tape) (hp : w'.output = w.output) (hs : w.heap.size ≤ w'.heap.size) (hb : ∀ k, k < w.heap.size → w'.heap[k]? = (putRow enc w g 0 d).heap[k]?) : w.grownBy w' (some g) :=
  ⟨ho, ht, hp, hs, fun k hk hn => (hb k hk).trans (putRow_block_other enc w g d fun q => hn (by rw [q]))⟩
theorem holds_own {w : World} {B c : Nat} {g n : Nat} {xs : List Int} (enc : α → Value) (d : Array α) (h : OwnI w B (.slice (some ⟨g, 0, none⟩) n c) xs) (hn : n = xs.length) (hd : d.size = n) (he : ∀ j (hj : j < xs.length), enc d[j]! = .int .i64 xs[j]) : Holds enc w g 0 d := by
  subst hn
  intro j hj
  obtain ⟨h1, h2⟩ := h
  rcases h2 with ⟨e, h0⟩ | ⟨g2, cap, cur, e, hB, hc, hle, hmx, hsz, htk⟩
  · cases e
  · injection e with e1 e2 e3
    injection e1 with e1
    injection e1 with e1
    subst e1
    subst e3
    refine ⟨?_, by simp [World.frozen?, hc]⟩
    have hjc : j < cur.size := by omega
    have hl : (xs.flatMap encI)[j]? = some (.int .i64 (xs[j]'(by omega))) := by
      rw [flat_encI, List.getElem?_map, List.getElem?_eq_getElem (by omega)]
      rfl
    rw [← htk, List.getElem?_take_of_lt (by omega), Array.getElem?_toList] at hl
    rw [he j (by omega)]
    simp only [World.cell?, hc, Nat.zero_add]
    exact hl
end
/-- slices.Sort of a row of the call's own, of different numbers: the rising list. -/
theorem slicesSort (B : Nat) (A : Option Addr) (c : Nat) (l : List Int) (w : World) (h : OwnI w B (.slice A l.length c) l) (hl : l.length ≤ 1000) (hd : l.Nodup) :
    Calls Try.prog 111 #[.slice A l.length c] w fun e w' => e = .returned (.tuple #[]) ∧ OwnI w' B (.slice A l.length c) (Mo.rise l) ∧ w.grownBy w' (Value.slice A l.length c).ownBlock := by
  by_cases h0 : l.length = 0
  · have := List.length_eq_zero_iff.1 h0
    subst this
    refine (Try.slices_Sort_int_none A c w).mono ?_
    rintro e w' ⟨rfl, rfl⟩
    exact ⟨rfl, h, grown_of_below (Below.refl _ _) _⟩
  · obtain ⟨g, rfl, hB, hg⟩ := own_addr h (by omega)
    have hH : Holds (Value.int .i64) w g 0 l.toArray := holds_own (Value.int .i64) l.toArray h rfl (by simp) fun j hj => by simp [hj]
    refine (Try.slices_Sort_int g 0 c l w hH hg (by omega)).mono ?_
    rintro e w' ⟨rfl, n, os, rfl⟩
    rw [Mo.rise_merge hd]
    have hlen : (Mo.rise l).length = l.length := (Mo.rise_perm hd).length_eq
    have hb : ∀ k, k < w.heap.size → (grow (putRow (Value.int .i64) (Sort.ahead w n) g 0 (Mo.rise l).toArray) os).heap[k]? = (putRow (Value.int .i64) w g 0 (Mo.rise l).toArray).heap[k]? := fun k hk => by
      rw [heap_grow_old _ _ (by simpa using hk)]
      rfl
    refine ⟨rfl, own_put (Value.int .i64) g (Mo.rise l).toArray h rfl rfl (by simpa using hlen) hlen (fun j hj => by simp [hj]) (hb g hg), put_grown (Value.int .i64) g (Mo.rise l).toArray rfl rfl rfl (by simp) hb⟩
theorem cmpIsNaN (x : Int) (w : World) : Calls Try.prog 167 #[.int .i64 x] w fun e w' => e = .returned (.bool false) ∧ w = w' := by
  go_enter Try.func167, Try.ntmps167
  go_wp2_with fail
  go_ret
  exact ⟨rfl, rfl⟩
def cmpI (x y : Int) : Int := if x < y then -1 else if y < x then 1 else 0
theorem cmpCompare (x y : Int) (w : World) : Calls Try.prog 110 #[.int .i64 x, .int .i64 y] w fun e w' => e = .returned (.int .i64 (cmpI x y)) ∧ w = w' := by
  by_cases h1 : x < y
  · have e : Hid (cmpI x y = -1) := by unfold cmpI; rw [if_pos h1]; rfl
    go_enter Try.func110, Try.ntmps110
    go_wp2_with (go_at_call 167; refine (cmpIsNaN _ _).mono ?_; rintro e2 w2 ⟨rfl, rfl⟩)
    go_ret
    exact ⟨by rw [e.out]; rfl, rfl⟩
  · by_cases h2 : y < x
    · have e : Hid (cmpI x y = 1) := by unfold cmpI; rw [if_neg h1, if_pos h2]; rfl
      go_enter Try.func110, Try.ntmps110
      go_wp2_with (go_at_call 167; refine (cmpIsNaN _ _).mono ?_; rintro e2 w2 ⟨rfl, rfl⟩)
      go_ret
      exact ⟨by rw [e.out]; rfl, rfl⟩
    · have e : Hid (cmpI x y = 0) := by unfold cmpI; rw [if_neg h1, if_neg h2]; rfl
      go_enter Try.func110, Try.ntmps110
      go_wp2_with (go_at_call 167; refine (cmpIsNaN _ _).mono ?_; rintro e2 w2 ⟨rfl, rfl⟩)
      go_ret
      exact ⟨by rw [e.out]; rfl, rfl⟩
/-- The order of places by what stands at them. -/
theorem mbClosure (bx : Nat) (A : Option Addr) (c : Nat) (al : List Int) (x y : Nat) (w : World) (hx : x < al.length) (hy : y < al.length) (hA : SlAt encI 1 w A al) (hb : w.cell? ⟨bx, 0, none⟩ = some (.slice A al.length c)) :
    Calls Try.prog 109 #[.int .i64 x, .int .i64 y, .pointer (some ⟨bx, 0, none⟩)] w fun e w' => e = .returned (.int .i64 (cmpI al[x] al[y])) ∧ ∃ q, w.drewN q = w' := by
  obtain ⟨ba, oa, rfl, hba, hcx⟩ := hA x hx
  obtain ⟨ba2, oa2, e2, hba2, hcy⟩ := hA y hy
  injection e2 with e2
  injection e2 with e2 e3
  subst e2
  subst e3
  have h0 := hcx 0 _ rfl
  have h1 := hcy 0 _ rfl
  simp only [Nat.add_zero, Nat.mul_one] at h0 h1
  clear hcx hcy hA
  generalize al[x] = ax at *
  generalize al[y] = ay at *
  go_enter Try.func109, Try.ntmps109
  go_wp2_with fail
  go_quiet ((go_at_call 110; exact Calls.quiet_of_same ((cmpCompare _ _ _).mono fun _ _ hh => ⟨hh.1, hh.2.symm⟩)))
  go_wp2_with fail
  go_ret
  exact ⟨rfl, _, rfl⟩
theorem cmpI_lt (x y : Int) : decide (cmpI x y < 0) = decide (x < y) := by
  unfold cmpI
  by_cases h1 : x < y
  · rw [if_pos h1]; simp [h1]
  · rw [if_neg h1]
    by_cases h2 : y < x
    · rw [if_pos h2]; simp; omega
    · rw [if_neg h2]; simp; omega
/-- The places of a list, in the stable order. -/
theorem sortStable (B g bx : Nat) (A : Option Addr) (c ca : Nat) (al : List Int) (w : World) (h : OwnI w B (.slice (some ⟨g, 0, none⟩) al.length c) ((List.range al.length).map fun k : Nat => (k : Int))) (hn : 0 < al.length) (hl : al.length ≤ 16) (hA : SlAt encI 1 w A al) (hA2 : ∀ a o, A = some ⟨a, o, none⟩ → a ≠ g) (hb : w.cell? ⟨bx, 0, none⟩ = some (.slice A al.length ca)) (hbx : bx ≠ g) :
    Calls Try.prog 108 #[.slice (some ⟨g, 0, none⟩) al.length c, .func (.func 109) #[] #[.pointer (some ⟨bx, 0, none⟩)]] w fun e w' => e = .returned (.tuple #[]) ∧ OwnI w' B (.slice (some ⟨g, 0, none⟩) al.length c) ((Mo.ordA (Mo.ltA al) al.length).map fun k : Nat => (k : Int)) ∧ w.grownBy w' (some g) := by
  have eg : ∀ args w, (callFunc 109 args).run Try.prog w = .ok (.enter 109 args) w := enters_of Try.func109 (by kernel_rfl) rfl
  have hbl : bx < w.heap.size := World.block_lt_of_cell? w _ hb
  let enc : Nat → Value := fun x => .int .i64 ((x % al.length : Nat) : Int)
  let cf : Nat → Nat → Int := fun x y => cmpI (al.getD (x % al.length) 0) (al.getD (y % al.length) 0)
  have hcmp : CmpReads Try.prog 109 #[.pointer (some ⟨bx, 0, none⟩)] enc cf g 0 al.length w := fun m os dk hdk x y => by
    have hx := Nat.mod_lt x hn
    have hy := Nat.mod_lt y hn
    have hcell : ∀ p : Addr, p.block ≠ g → p.block < w.heap.size → (sortWorld enc w g 0 m dk os).cell? p = w.cell? p := fun p h1 h2 => by
      unfold sortWorld
      rw [cell?_grow _ _ _ (by simpa using h2), cell?_putRow_other _ _ _ _ _ _ (.inl h1)]
      rfl
    have hA' : SlAt encI 1 (sortWorld enc w g 0 m dk os) A al := fun k hk => by
      obtain ⟨ba, oa, e, hba, hc⟩ := hA k hk
      exact ⟨ba, oa, e, by unfold sortWorld; simp; omega, fun j v hv => (hcell ⟨ba, oa + k * 1 + j, none⟩ (hA2 ba oa e) hba).trans (hc j v hv)⟩
    have hq := mbClosure bx A ca al (x % al.length) (y % al.length) _ hx hy hA' ((hcell ⟨bx, 0, none⟩ hbx hbl).trans hb)
    refine hq.mono ?_
    rintro e w' ⟨rfl, q, rfl⟩
    refine ⟨?_, q, rfl⟩
    simp only [cf, List.getD_eq_getElem?_getD, List.getElem?_eq_getElem hx, List.getElem?_eq_getElem hy, Option.getD_some]
  have hH : Holds enc w g 0 (List.range al.length).toArray := holds_own enc _ h (by simp) (by simp) fun j hj => by
    have hjn : j < al.length := by simpa using hj
    have e1 : (List.range al.length).toArray[j]! = j := by simp [hjn]
    rw [e1]
    show Value.int .i64 ((j % al.length : Nat) : Int) = _
    rw [Nat.mod_eq_of_lt hjn]
    simp
  have hs := Any.insertionSortCmpFunc_one Try.laysF20 enc (fun _ => rfl) cf 109 #[.pointer (some ⟨bx, 0, none⟩)] g 0 c 0 al.length (List.range al.length).toArray w eg (by simpa using hcmp) hH (Nat.zero_le _) (by simp) (by simp; omega)
  rw [Mo.insertionSort_eq _ _ hn] at hs
  have hlt : Mo.ordA (ltOf cf) al.length = Mo.ordA (Mo.ltA al) al.length := Mo.ordA_congr fun x y hx hy => by
    simp only [ltOf, cf, Mo.ltA, cmpI_lt, Nat.mod_eq_of_lt hx, Nat.mod_eq_of_lt hy]
  rw [hlt] at hs
  have hlen : (Mo.ordA (Mo.ltA al) al.length).length = al.length := Mo.ordA_len
  have HS : Hid (Calls Try.prog 190 #[.slice (some ⟨g, 0, none⟩) al.length c, .int .i64 0, .int .i64 al.length, .func (.func 109) #[] #[.pointer (some ⟨bx, 0, none⟩)]] w fun e w' => e = .returned (.tuple #[]) ∧ OwnI w' B (.slice (some ⟨g, 0, none⟩) al.length c) ((Mo.ordA (Mo.ltA al) al.length).map fun k : Nat => (k : Int)) ∧ w.grownBy w' (some g)) := by
    have hs2 : Calls Try.prog 190 #[.slice (some ⟨g, 0, none⟩) al.length c, .int .i64 0, .int .i64 al.length, .func (.func 109) #[] #[.pointer (some ⟨bx, 0, none⟩)]] w (fun e w' => e = .returned (.tuple #[]) ∧ ∃ n, w' = (putRow enc w g 0 (Mo.ordA (Mo.ltA al) al.length).toArray).drewN n) := by
      rw [show (List.range al.length).toArray.size = al.length by simp] at hs
      exact hs
    refine hs2.mono ?_
    rintro e w' ⟨rfl, n, rfl⟩
    have hb' : ∀ k, k < w.heap.size → ((putRow enc w g 0 (Mo.ordA (Mo.ltA al) al.length).toArray).drewN n).heap[k]? = (putRow enc w g 0 (Mo.ordA (Mo.ltA al) al.length).toArray).heap[k]? := fun k _ => rfl
    refine ⟨rfl, own_put enc g _ h (by simp) rfl (by simpa using hlen) (by simpa using hlen) (fun j hj => ?_) (hb' g (h.lt g rfl).2), put_grown enc g _ rfl rfl rfl (by simp) hb'⟩
    have hj2 : j < (Mo.ordA (Mo.ltA al) al.length).length := by simpa using hj
    have hm : (Mo.ordA (Mo.ltA al) al.length)[j] < al.length := Mo.ordA_lt (List.getElem_mem hj2)
    have e1 : (Mo.ordA (Mo.ltA al) al.length).toArray[j]! = (Mo.ordA (Mo.ltA al) al.length)[j] := by simp [hj2]
    rw [e1]
    show Value.int .i64 (((Mo.ordA (Mo.ltA al) al.length)[j] % al.length : Nat) : Int) = _
    rw [Nat.mod_eq_of_lt hm]
    simp
  clear hs hlt hlen hH hcmp eg hA hA2 h hb hbx hbl
  have h20 : decide ((20 : Int) ≤ (al.length : Int)) = false := by simp; omega
  have h21 : decide ((20 : Int) < (al.length : Int)) = false := by simp; omega
  generalize (Mo.ordA (Mo.ltA al) al.length).map (fun k : Nat => (k : Int)) = ys at *
  have HT : Hid (Calls Try.prog 166 #[.slice (some ⟨g, 0, none⟩) al.length c, .int .i64 al.length, .func (.func 109) #[] #[.pointer (some ⟨bx, 0, none⟩)]] w fun e w' => e = .returned (.tuple #[]) ∧ OwnI w' B (.slice (some ⟨g, 0, none⟩) al.length c) ys ∧ w.grownBy w' (some g)) := by
    show Calls _ _ _ _ _
    go_enter Try.func166, Try.ntmps166
    go_wp2_with fail
    refine wp_loop_rounds 1 ?_
    rw [rounds_succ]
    go_wp2_with (go_at_call 190; refine HS.out.mono ?_; rintro e w' ⟨rfl, ho, hg⟩)
    refine wp_loop_rounds 1 ?_
    rw [rounds_succ]
    go_wp2_with fail
    go_end0
    exact ⟨rfl, ho, hg⟩
  go_enter Try.func108, Try.ntmps108
  go_wp2_with (go_at_call 166; refine HT.out.mono ?_; rintro e w' ⟨rfl, ho, hg⟩)
  go_end0
  exact ⟨rfl, ho, hg⟩
theorem sortStable_nil (A : Option Addr) (c : Nat) (f : Value) (w : World) :
    Calls Try.prog 108 #[.slice A 0 c, f] w fun e w' => e = .returned (.tuple #[]) ∧ w = w' := by
  have HS : Hid (Calls Try.prog 190 #[.slice A 0 c, .int .i64 0, .int .i64 0, f] w fun e w' => e = .returned (.tuple #[]) ∧ w = w') := by
    show Calls _ _ _ _ _
    go_enter Try.func190, Try.ntmps190
    go_wp2_with fail
    refine wp_loop_rounds 1 ?_
    rw [rounds_succ]
    go_wp2_with fail
    go_end0
    exact ⟨rfl, rfl⟩
  have HT : Hid (Calls Try.prog 166 #[.slice A 0 c, .int .i64 0, f] w fun e w' => e = .returned (.tuple #[]) ∧ w = w') := by
    show Calls _ _ _ _ _
    go_enter Try.func166, Try.ntmps166
    go_wp2_with fail
    refine wp_loop_rounds 1 ?_
    rw [rounds_succ]
    go_wp2_with (go_at_call 190; refine HS.out.mono ?_; rintro e w' ⟨rfl, rfl⟩)
    refine wp_loop_rounds 1 ?_
    rw [rounds_succ]
    go_wp2_with fail
    go_end0
    exact ⟨rfl, rfl⟩
  go_enter Try.func108, Try.ntmps108
  go_wp2_with (go_at_call 166; refine HT.out.mono ?_; rintro e w' ⟨rfl, rfl⟩)
  go_end0
  exact ⟨rfl, rfl⟩
end Go.Proofs.Ytjklhacffdhgaaa
