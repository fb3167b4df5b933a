/- slices.Clone and slices.Insert at rows of loads of the call's own. slices.Insert of one load into a row of loads of the call's own. The program's AddLoad. The program's AddLoad for a beam whose loads may be nil (printed by genadg.py out of XAdK). -/
import Derived.Test.YtajodbhbmfjmjaaGreatDoorBeam2
import Derived.Shelf.Spec.SlicesInsertGrow
import Derived.Maps.AppendAt
import Derived.Deep.DeepCutAuto
import Derived.Deep.RegionLaw
namespace Go.Proofs.YtajodbhbmfjmjaaGreatDoor
open Go.RowKit Go.Lib

theorem info_LdA : (Tryz.prog.info? 31).map (fun i => (i.zero, i.size, i.bytes)) = some (some (.agg #[.int .i64 0, .int .i64 0]), 2, 16) := by kernel_rfl
abbrev OwnL (w : World) (B : Nat) (v : Value) (ls : List LoadR) : Prop := Own encLoad 2 31 w B v ls
theorem encL_one (x : LoadR) : ∀ u ∈ encLoad x, u.oneCell' = true := by intro u hu; simp [encLoad] at hu; rcases hu with rfl | rfl <;> rfl
theorem flatL_len (ls : List LoadR) : (ls.flatMap encLoad).length = ls.length * 2 := flat_length (enc := encLoad) (sz := 2) (fun _ => rfl) ls
theorem flatL_one (ls : List LoadR) : ∀ u ∈ ls.flatMap encLoad, u.oneCell' = true := fun u hu => by
  obtain ⟨x, _, h⟩ := List.mem_flatMap.1 hu
  exact encL_one x u h
theorem flatL_take (ls : List LoadR) (i : Nat) : (ls.flatMap encLoad).take (i * 2) = (ls.take i).flatMap encLoad := by
  induction ls generalizing i with
  | nil => simp
  | cons x ls ih =>
    cases i with
    | zero => simp
    | succ i =>
      rw [List.take_succ_cons, List.flatMap_cons, List.flatMap_cons, ← ih i, show (i + 1) * 2 = i * 2 + 1 + 1 by omega]
      rfl
theorem flatL_drop (ls : List LoadR) (i : Nat) : (ls.flatMap encLoad).drop (i * 2) = (ls.drop i).flatMap encLoad := by
  induction ls generalizing i with
  | nil => simp
  | cons x ls ih =>
    cases i with
    | zero => simp
    | succ i =>
      rw [List.drop_succ_cons, List.flatMap_cons, ← ih i, show (i + 1) * 2 = i * 2 + 1 + 1 by omega]
      rfl
/-- What a row is with one more in it. -/
def insL (ls : List LoadR) (i : Nat) (x : LoadR) : List LoadR := ls.take i ++ [x] ++ ls.drop i
theorem insL_len {ls : List LoadR} {i : Nat} (h : i ≤ ls.length) (x : LoadR) : (insL ls i x).length = ls.length + 1 := by simp [insL]; omega
section
variable {P : Program}
/-- A copy of elements of some cells: all is read before anything is written. -/
theorem run_copy_cellsN (w : World) (dT sT ty elem : TypeId) (b o dLen dCap : Nat) (a : Addr) (sLen sCap sz : Nat) (cs : List Value)
    (hu : P.underlying dT = some (.slice elem)) (hs : (P.info? elem).map (·.size) = some sz) (hn : cs.length = Nat.min sLen dLen * sz)
    (hsrc : ∀ j v, cs[j]? = some v → w.cell? (a.add j) = some v) (hc : ∀ j, j < cs.length → (w.cell? ⟨b, o + j, none⟩).isSome = true) (hf : ∀ j, j < cs.length → w.frozen? ⟨b, o + j, none⟩ = false) (h1 : ∀ v ∈ cs, v.oneCell' = true) :
    (Builtin.copy_ #[dT, sT] ty #[.slice (some ⟨b, o, none⟩) dLen dCap, .slice (some a) sLen sCap]).run P w = .ok (goInt (Nat.min sLen dLen)) (w.setCells b o cs) := by
  have hl := run_loadCells_list (P := P) w a cs hsrc
  have hst := run_storeCells_cells (P := P) b o cs 0 w (by simpa using hc) (by simpa using hf) h1
  cases hq : P.info? elem with
  | none => simp [hq] at hs
  | some i =>
    have hi : i.size = sz := by simpa [hq] using hs
    simp [Builtin.copy_, run_underlying hu, Builtin.lenOf, Builtin.firstCells, sizeOf, typeInfo, hq, hi, ← hn, hl, hst]
end
/-- What stores into a block leave. -/
theorem setCells_block (b : Nat) : ∀ (vs : List Value) (o : Nat) (w : World) (cur : Array Value) (T : TypeId) (fr : Nat × Nat), w.heap[b]? = some (.cells cur T fr) → ∃ cur', (w.setCells b o vs).heap[b]? = some (.cells cur' T fr) ∧ cur'.size = cur.size ∧ (∀ j, j < o ∨ o + vs.length ≤ j → cur'[j]? = cur[j]?) ∧ ∀ j, j < vs.length → o + j < cur.size → cur'[o + j]? = vs[j]? := by
  intro vs
  induction vs with
  | nil => intro o w cur T fr h; exact ⟨cur, h, rfl, fun _ _ => rfl, fun j hj => by simp at hj⟩
  | cons v vs ih =>
    intro o w cur T fr h
    have h1 : (w.setCell ⟨b, o, none⟩ v).heap[b]? = some (.cells (cur.setIfInBounds o v) T fr) := by simp [World.setCell, Array.getElem?_modify, h]
    obtain ⟨cur', e, hs, ho, hi⟩ := ih (o + 1) _ _ T fr h1
    refine ⟨cur', e, by simpa using hs, fun j hj => ?_, fun j hj hb => ?_⟩
    · rw [List.length_cons] at hj
      rw [ho j (by omega), Array.getElem?_setIfInBounds_ne (by omega)]
    · cases j with
      | zero =>
        rw [Nat.add_zero, ho o (by omega), Array.getElem?_setIfInBounds_self_of_lt (by omega)]
        rfl
      | succ j =>
        rw [List.length_cons] at hj
        have := hi j (by omega) (by simpa using (show o + 1 + j < cur.size by omega))
        rw [show o + (j + 1) = o + 1 + j by omega, this]
        rfl
theorem setCells_other (b : Nat) : ∀ (vs : List Value) (o : Nat) (w : World) (k : Nat), k ≠ b → (w.setCells b o vs).heap[k]? = w.heap[k]? := by
  intro vs
  induction vs with
  | nil => intro o w k _; rfl
  | cons v vs ih =>
    intro o w k hk
    rw [World.setCells, ih (o + 1) _ k hk]
    simp [World.setCell, Array.getElem?_modify, Ne.symm hk]
theorem setCells_size (b : Nat) : ∀ (vs : List Value) (o : Nat) (w : World), (w.setCells b o vs).heap.size = w.heap.size := by
  intro vs
  induction vs with
  | nil => intro o w; rfl
  | cons v vs ih => intro o w; rw [World.setCells, ih]; simp [World.setCell]
theorem setCells_rest (b : Nat) : ∀ (vs : List Value) (o : Nat) (w : World), (w.setCells b o vs).os = w.os ∧ (w.setCells b o vs).tape = w.tape ∧ (w.setCells b o vs).output = w.output := by
  intro vs
  induction vs with
  | nil => intro o w; exact ⟨rfl, rfl, rfl⟩
  | cons v vs ih => intro o w; exact ih (o + 1) _
/-- A row after an element was put between its elements: what was laid at its place, and behind. -/
theorem own_ins {w1 : World} {B g cap i : Nat} {x : LoadR} {ls : List LoadR} {cur : Array Value} (hB : B ≤ g) (hc : w1.heap[g]? = some (.cells cur 31 (0, 0))) (hn : ls.length + 1 ≤ cap) (hm : cap ≤ maxLen) (hs : cur.size = cap * 2) (hi : i ≤ ls.length)
    (h0 : ∀ j, j < i * 2 → cur[j]? = (ls.flatMap encLoad)[j]?) (h1 : ∀ j, j < 2 → cur[i * 2 + j]? = (encLoad x)[j]?) (h2 : ∀ j, j < (ls.length - i) * 2 → cur[(i + 1) * 2 + j]? = ((ls.drop i).flatMap encLoad)[j]?) :
    OwnL w1 B (.slice (some ⟨g, 0, none⟩) (ls.length + 1) cap) (insL ls i x) := by
  have hl := insL_len hi x
  refine ⟨flat_length (enc := encLoad) (sz := 2) (fun _ => rfl) _, .inr ⟨g, cap, cur, by rw [hl], hB, hc, by omega, hm, hs, ?_⟩⟩
  rw [hl]
  refine List.ext_getElem? fun j => ?_
  have ht := flatL_len (ls.take i)
  have hd := flatL_len (ls.drop i)
  rw [List.length_take, Nat.min_eq_left hi] at ht
  rw [List.length_drop] at hd
  have hx : (encLoad x).length = 2 := rfl
  unfold insL
  rw [List.flatMap_append, List.flatMap_append, List.flatMap_cons, List.flatMap_nil, List.append_nil]
  by_cases hj : j < (ls.length + 1) * 2
  · rw [List.getElem?_take_of_lt hj, Array.getElem?_toList]
    by_cases j1 : j < i * 2
    · rw [List.append_assoc, List.getElem?_append_left (by omega), ← flatL_take, List.getElem?_take_of_lt j1]
      exact h0 j j1
    · by_cases j2 : j < i * 2 + 2
      · rw [List.append_assoc, List.getElem?_append_right (by omega), List.getElem?_append_left (by omega), ht]
        have := h1 (j - i * 2) (by omega)
        rwa [show i * 2 + (j - i * 2) = j by omega] at this
      · rw [List.getElem?_append_right (by rw [List.length_append]; omega), List.length_append, ht, hx]
        have := h2 (j - (i * 2 + 2)) (by omega)
        rwa [show (i + 1) * 2 + (j - (i * 2 + 2)) = j by omega] at this
  · rw [List.getElem?_eq_none (by simp; omega), List.getElem?_eq_none (by rw [List.length_append, List.length_append]; omega)]
end Go.Proofs.YtajodbhbmfjmjaaGreatDoor
namespace Go.Proofs.YtajodbhbmfjmjaaGreatDoor
open Go.RowKit Go.Lib

/-- What an insertion leaves. -/
def InsPost (B : Nat) (v : Value) (ls : List LoadR) (i : Nat) (x : LoadR) (w : World) (e : Ending) (w' : World) : Prop := ∃ (A : Option Addr) (c : Nat), e = .returned (.slice A (ls.length + 1) c) ∧ OwnL w' B (.slice A (ls.length + 1) c) (insL ls i x) ∧ w.grownBy w' v.ownBlock ∧ w.heap.size ≤ w'.heap.size
theorem setCells_heap (b : Nat) : ∀ (vs : List Value) (o : Nat) (w w' : World), w.heap = w'.heap → (w.setCells b o vs).heap = (w'.setCells b o vs).heap := by
  intro vs
  induction vs with
  | nil => intro o w w' h; exact h
  | cons v vs ih => intro o w w' h; exact ih (o + 1) _ _ (by simp only [World.setCell, h])
theorem info_size : (Tryz.prog.info? 31).map (·.size) = some 2 := by kernel_rfl
set_option maxHeartbeats 4000000 in
set_option maxRecDepth 100000 in
theorem insertLoad_shift (B g c i vb : Nat) (ls : List LoadR) (x : LoadR) (w : World) (h : OwnL w B (.slice (some ⟨g, 0, none⟩) ls.length c) ls) (hi : i < ls.length) (hn : ls.length ≤ 1000) (hroom : ls.length + 1 ≤ c) (hv : w.heap[vb]? = some (.cells (encLoad x).toArray 31 (0, 0))) (hvb : vb ≠ g) :
    Calls Tryz.prog 35 #[.slice (some ⟨g, 0, none⟩) ls.length c, .int .i64 i, .slice (some ⟨vb, 0, none⟩) 1 1] w (InsPost B (.slice (some ⟨g, 0, none⟩) ls.length c) ls i x w) := by
  rcases h.2 with ⟨e, _⟩ | ⟨g2, cap, cur, e, hB, hc, hle, hmx, hsz, htk⟩
  · cases e
  injection e with e1 e2 e3
  injection e1 with e1
  injection e1 with e1
  subst e1
  subst e3
  have hfl := flatL_len ls
  have hcur : ∀ j, j < ls.length * 2 → cur[j]? = (ls.flatMap encLoad)[j]? := fun j hj => by
    rw [← htk, List.getElem?_take_of_lt hj, Array.getElem?_toList]
  have hcs : ∀ j v, (ls.flatMap encLoad)[j]? = some v → w.cell? ⟨g, j, none⟩ = some v := fun j v hj => by
    have hjl : j < ls.length * 2 := by
      have := (List.getElem?_eq_some_iff.1 hj).1
      omega
    simp only [World.cell?, hc]
    rw [hcur j hjl]
    exact hj
  have hsp : ∀ j, j < c * 2 → (w.cell? ⟨g, j, none⟩).isSome = true := fun j hj => by
    simp only [World.cell?, hc]
    rw [Array.getElem?_eq_getElem (by omega)]
    rfl
  have hfz : ∀ j, w.frozen? ⟨g, j, none⟩ = false := fun j => by simp [World.frozen?, hc]
  have hvs : ∀ j v, (encLoad x)[j]? = some v → w.cell? ⟨vb, j, none⟩ = some v := fun j v hj => by
    simp only [World.cell?, hv]
    simpa using hj
  have hz2 : ¬ ((i : Int) = (ls.length : Int)) := by omega
  have hov : ∀ lb cb, (callFunc 57 #[.slice (some ⟨vb, 0, none⟩) 1 1, .slice (some ⟨g, (i + 1) * 2, none⟩) lb cb]).run Tryz.prog w = .ok (.value (.bool false)) w := fun lb cb => by
    rw [run_callFunc_extern Tryz.func57 (by kernel_rfl) (by kernel_rfl) (by kernel_rfl) (e := Extern.SlicesOverlaps.overlaps #[24, 24] #[4]) (by kernel_rfl),
      Lib.run_overlaps_apart w 24 4 31 Tryz.underlying24 2 Tryz.sizeOf31 ⟨vb, 0, none⟩ ⟨g, (i + 1) * 2, none⟩ 1 1 lb cb hvb 31 31 2 (c * 2) (by simp [World.shape?, hv, encLoad]) (by simp [World.shape?, hc, hsz]) (by omega) (by simp [World.frozen?, hv]) (by simp [World.frozen?, hv])]
    rfl
  have hcp1 : ∀ ty dl dc sl sc, Nat.min sl dl = ls.length - i → (Builtin.copy_ #[24, 24] ty #[.slice (some ⟨g, (i + 1) * 2, none⟩) dl dc, .slice (some ⟨g, i * 2, none⟩) sl sc]).run Tryz.prog w.drew = .ok (goInt ((ls.length - i : Nat) : Int)) (w.drew.setCells g ((i + 1) * 2) ((ls.drop i).flatMap encLoad)) := fun ty dl dc sl sc hm => by
    have q := run_copy_cellsN w.drew 24 24 ty 31 g ((i + 1) * 2) dl dc ⟨g, i * 2, none⟩ sl sc 2 ((ls.drop i).flatMap encLoad) Tryz.underlying24 info_size (by rw [flatL_len, List.length_drop, hm])
      (fun j v hj => by
        rw [Addr.add_lit]
        refine hcs (i * 2 + j) v ?_
        rw [← flatL_drop, List.getElem?_drop] at hj
        exact hj)
      (fun j hj => by rw [flatL_len, List.length_drop] at hj; exact hsp _ (by omega)) (fun j _ => hfz _) (flatL_one _)
    rw [hm] at q
    exact q
  obtain ⟨W1, hW1⟩ : ∃ W1, W1 = w.drew.setCells g ((i + 1) * 2) ((ls.drop i).flatMap encLoad) := ⟨_, rfl⟩
  have hsp1 : ∀ j, j < c * 2 → (W1.cell? ⟨g, j, none⟩).isSome = true := fun j hj => by
    rw [hW1]
    exact isSome_setCells g _ _ _ (fun k hk => by rw [flatL_len, List.length_drop] at hk; exact hsp _ (by omega)) _ (hsp j hj)
  have hcp2 : ∀ (W : World), (∀ x, W.cell? x = W1.cell? x) → (∀ x, W.frozen? x = W1.frozen? x) → ∀ ty dl dc, 0 < dl → (Builtin.copy_ #[24, 24] ty #[.slice (some ⟨g, i * 2, none⟩) dl dc, .slice (some ⟨vb, 0, none⟩) 1 1]).run Tryz.prog W = .ok (goInt 1) (W.setCells g (i * 2) (encLoad x)) := fun W hWc hWf ty dl dc hd => by
    have hm : Nat.min 1 dl = 1 := Nat.min_eq_left hd
    have q := run_copy_cellsN W 24 24 ty 31 g (i * 2) dl dc ⟨vb, 0, none⟩ 1 1 2 (encLoad x) Tryz.underlying24 info_size (by rw [hm]; rfl)
      (fun j v hj => by
        rw [Addr.add_lit, hWc, hW1, World.cell?_setCells_out g _ _ _ _ (fun h _ => absurd h hvb), Nat.zero_add]
        exact hvs j v hj)
      (fun j hj => by
        have hj2 : j < 2 := hj
        rw [hWc]
        exact hsp1 _ (by omega)) (fun j _ => by rw [hWf, hW1, World.frozen?_setCells]; exact hfz _) (encL_one x)
    rw [hm] at q
    exact q
  rw [← hW1] at hcp1
  have HOV := hov
  have HC1 := hide hcp1
  have HC2 := hide hcp2
  have hc63 : c ≤ 9223372036854775807 := by unfold maxLen at hmx; exact hmx
  have hb4 : ¬ (c = i) := by omega
  have hb5 : ¬ (c = i + 1) := by omega
  have hw1 : IntKind.i64.wrap ((i : Int) + 1) = (i : Int) + 1 := IntWalk.i64_in _ (by omega)
  have hb1 : (0 : Int) ≤ (i : Int) + 1 := by omega
  have hb2 : (i : Int) + 1 ≤ (ls.length : Int) + 1 := by omega
  have hb3 : (i : Int) ≤ (ls.length : Int) + 1 := by omega
  have htn : ((i : Int) + 1).toNat = i + 1 := by omega
  have HFIN := hide (show OwnL ((w.drew.setCells g ((i + 1) * 2) ((ls.drop i).flatMap encLoad)).setCells g (i * 2) (encLoad x)) B (.slice (some ⟨g, 0, none⟩) (ls.length + 1) c) (insL ls i x) ∧ w.grownBy ((w.drew.setCells g ((i + 1) * 2) ((ls.drop i).flatMap encLoad)).setCells g (i * 2) (encLoad x)) (Value.slice (some ⟨g, 0, none⟩) ls.length c).ownBlock ∧ w.heap.size ≤ ((w.drew.setCells g ((i + 1) * 2) ((ls.drop i).flatMap encLoad)).setCells g (i * 2) (encLoad x)).heap.size from by
    obtain ⟨c1, e1, z1, o1, n1⟩ := setCells_block g ((ls.drop i).flatMap encLoad) ((i + 1) * 2) w.drew cur _ _ hc
    obtain ⟨c2, e2', z2, o2, n2⟩ := setCells_block g (encLoad x) (i * 2) _ c1 _ _ e1
    have hdl : ((ls.drop i).flatMap encLoad).length = (ls.length - i) * 2 := by rw [flatL_len, List.length_drop]
    have hx2 : (encLoad x).length = 2 := rfl
    refine ⟨own_ins hB e2' hroom hmx (by omega) (by omega) (fun j hj => ?_) (fun j hj => ?_) (fun j hj => ?_), ⟨?_, ?_, ?_, ?_, fun k hk hne => ?_⟩, ?_⟩
    · rw [o2 j (.inl hj), o1 j (.inl (by omega)), hcur j (by omega)]
    · exact n2 j hj (by omega)
    · rw [o2 _ (.inr (by omega))]
      exact n1 j (by omega) (by omega)
    · rw [(setCells_rest g _ _ _).1, (setCells_rest g _ _ _).1]; rfl
    · rw [(setCells_rest g _ _ _).2.1, (setCells_rest g _ _ _).2.1]; rfl
    · rw [(setCells_rest g _ _ _).2.2, (setCells_rest g _ _ _).2.2]; rfl
    · rw [setCells_size, setCells_size]; exact Nat.le_refl _
    · have hkg : k ≠ g := fun q => hne (by rw [q]; rfl)
      rw [setCells_other g _ _ _ _ hkg, setCells_other g _ _ _ _ hkg]; rfl
    · rw [setCells_size, setCells_size]; exact Nat.le_refl _)
  clear hov hcp1 hcp2 hsp1 hsp hcs hvs hfz hcur htk hB hc hmx hsz h e2 hfl
  go_enter Tryz.func35, Tryz.ntmps35
  go_wp2_with (simp only [HOV])
  go_region_law (refine step_copy_runI rfl _ _ 24 24 rfl (.slice (some ⟨g, (i + 1) * 2, none⟩) (ls.length + 1 - (i + 1)) (c - (i + 1))) (.slice (some ⟨g, i * 2, none⟩) (ls.length + 1 - i) (c - i)) (by simp [Act.eval, Act.put]) (by simp [Act.eval, Act.put]) (HC1.out _ _ _ _ _ (by simp only [Nat.min_def]; split <;> omega)) ?_)
  have hc2x := HC2.out (w.drew.setCells g ((i + 1) * 2) ((ls.drop i).flatMap encLoad)) (fun _ => by rw [hW1]) (fun _ => by rw [hW1]) 3 (ls.length + 1 - i) (c - i) (by omega)
  go_wp2_with (simp only [hc2x])
  go_ret
  exact ⟨some ⟨g, 0, none⟩, c, rfl, HFIN.out.1, HFIN.out.2.1, HFIN.out.2.2⟩
set_option maxHeartbeats 4000000 in
set_option maxRecDepth 100000 in
theorem insertLoad_grow (B g c i vb : Nat) (ls : List LoadR) (x : LoadR) (w : World) (h : OwnL w B (.slice (some ⟨g, 0, none⟩) ls.length c) ls) (hi : i < ls.length) (hn : ls.length ≤ 1000) (hroom : c < ls.length + 1) (hv : w.heap[vb]? = some (.cells (encLoad x).toArray 31 (0, 0))) :
    Calls Tryz.prog 35 #[.slice (some ⟨g, 0, none⟩) ls.length c, .int .i64 i, .slice (some ⟨vb, 0, none⟩) 1 1] w (InsPost B (.slice (some ⟨g, 0, none⟩) ls.length c) ls i x w) := by
  rcases h.2 with ⟨e, _⟩ | ⟨g2, cap, cur, e, hB, hc, hle, hmx, hsz, htk⟩
  · cases e
  injection e with e1 e2 e3
  injection e1 with e1
  injection e1 with e1
  subst e1
  subst e3
  have hfl := flatL_len ls
  have hgl : g < w.heap.size := (Array.getElem?_eq_some_iff.1 hc).1
  have hvl : vb < w.heap.size := (Array.getElem?_eq_some_iff.1 hv).1
  have hcur : ∀ j, j < ls.length * 2 → cur[j]? = (ls.flatMap encLoad)[j]? := fun j hj => by
    rw [← htk, List.getElem?_take_of_lt hj, Array.getElem?_toList]
  have hcs : ∀ j v, (ls.flatMap encLoad)[j]? = some v → w.cell? ⟨g, j, none⟩ = some v := fun j v hj => by
    have hjl : j < ls.length * 2 := by
      have := (List.getElem?_eq_some_iff.1 hj).1
      omega
    simp only [World.cell?, hc]
    rw [hcur j hjl]
    exact hj
  have hvs : ∀ j v, (encLoad x)[j]? = some v → w.cell? ⟨vb, j, none⟩ = some v := fun j v hj => by
    simp only [World.cell?, hv]
    simpa using hj
  obtain ⟨i0, hi0, hz0, hzs, hzb⟩ := info_parts info_LdA
  have hold : (Builtin.firstCells i0.size i (.slice (some ⟨g, 0, none⟩) i c)).run Tryz.prog w.drew = .ok ((ls.take i).flatMap encLoad).toArray w.drew := by
    rw [hzs]
    refine run_firstCells_some w.drew 2 i ⟨g, 0, none⟩ i c ((ls.take i).flatMap encLoad) (by rw [flatL_len, List.length_take]; omega) (fun j v hj => ?_)
    rw [Addr.add_lit, Nat.zero_add]
    rw [← flatL_take, List.getElem?_take] at hj
    split at hj
    · exact hcs j v hj
    · cases hj
  have hrz : ∀ ty, (Builtin.append_ #[24, 3] ty #[.slice (some ⟨g, 0, none⟩) i c, .int .i64 ((ls.length : Int) + 1 - (i : Int))]).run Tryz.prog w =
      .ok (.slice (some ⟨w.heap.size, 0, none⟩) (ls.length + 1) (grownCap w (ls.length + 1) c 31)) (w.drew.alloc (.cells (((ls.take i).flatMap encLoad).toArray ++ Builtin.zeroCells (Value.agg #[.int .i64 0, .int .i64 0]).cells (ls.length + 1 - i) ++ Builtin.zeroCells (Value.agg #[.int .i64 0, .int .i64 0]).cells (grownCap w (ls.length + 1) c 31 - (ls.length + 1))) 31)) := fun ty => by
    have hik : i + (ls.length + 1 - i) = ls.length + 1 := by omega
    have q := Lib.run_append_grow_zeros w 24 3 ty 31 i0 _ .i64 .i64 Tryz.underlying24 Tryz.underlying3 hi0 hz0 (some ⟨g, 0, none⟩) i c ((ls.take i).flatMap encLoad) hold (ls.length + 1 - i) (by omega) (by omega) (by omega) (by omega) (by rw [hzb]; omega) (by rw [hzb, hik]; exact growslice_fits hroom (by omega))
    rw [hik] at q
    rw [show (ls.length : Int) + 1 - (i : Int) = ((ls.length + 1 - i : Nat) : Int) by omega]
    exact q
  have hGn : ls.length + 1 ≤ grownCap w (ls.length + 1) c 31 := grownCap_ge w _ _ _
  have hGm : grownCap w (ls.length + 1) c 31 ≤ maxLen := grownCap_le_maxLen w (ls.length + 1) c 31 (by unfold maxLen; omega)
  generalize grownCap w (ls.length + 1) c 31 = G at *
  obtain ⟨ROW, hROW⟩ : ∃ ROW : Array Value, ROW = ((ls.take i).flatMap encLoad).toArray ++ Builtin.zeroCells (Value.agg #[.int .i64 0, .int .i64 0]).cells (ls.length + 1 - i) ++ Builtin.zeroCells (Value.agg #[.int .i64 0, .int .i64 0]).cells (G - (ls.length + 1)) := ⟨_, rfl⟩
  rw [← hROW] at hrz
  have htl : ((ls.take i).flatMap encLoad).length = i * 2 := by rw [flatL_len, List.length_take]; omega
  have hRs : ROW.size = G * 2 := by
    rw [hROW]
    simp only [Array.size_append, List.size_toArray, htl, Builtin.zeroCells, Array.size_map, Array.size_range, Value.cells]
    simp
    omega
  have hR0 : ∀ j, j < i * 2 → ROW[j]? = (ls.flatMap encLoad)[j]? := fun j hj => by
    rw [hROW, Array.append_assoc, Array.getElem?_append_left (by rw [List.size_toArray, htl]; exact hj), List.getElem?_toArray, ← flatL_take, List.getElem?_take_of_lt hj]
  obtain ⟨N, hN⟩ : ∃ N, N = w.heap.size := ⟨_, rfl⟩
  have hdl : ((ls.drop i).flatMap encLoad).length = (ls.length - i) * 2 := by rw [flatL_len, List.length_drop]
  have hx2 : (encLoad x).length = 2 := rfl
  have hNb : (w.drew.alloc (.cells ROW 31)).heap[w.heap.size]? = some (.cells ROW 31 (0, 0)) := heap_alloc_new w.drew _
  have hFIN : ∀ W' : World, W'.heap = (((w.drew.alloc (.cells ROW 31)).setCells w.heap.size (i * 2) (encLoad x)).setCells w.heap.size ((i + 1) * 2) ((ls.drop i).flatMap encLoad)).heap → W'.os = w.os → W'.tape = w.tape → W'.output = w.output →
      OwnL W' B (.slice (some ⟨w.heap.size, 0, none⟩) (ls.length + 1) G) (insL ls i x) ∧ w.grownBy W' (Value.slice (some ⟨g, 0, none⟩) ls.length c).ownBlock ∧ w.heap.size ≤ W'.heap.size := fun W' hh ho ht hp => by
    obtain ⟨c1, e1, z1, o1, n1⟩ := setCells_block w.heap.size (encLoad x) (i * 2) _ ROW _ _ hNb
    obtain ⟨c2, e2', z2, o2, n2⟩ := setCells_block w.heap.size ((ls.drop i).flatMap encLoad) ((i + 1) * 2) _ c1 _ _ e1
    have hsz' : W'.heap.size = w.heap.size + 1 := by
      rw [hh, setCells_size, setCells_size]
      show (w.drew.alloc _).heap.size = _
      simp [World.alloc]
    refine ⟨own_ins (cur := c2) (by omega) (by rw [hh]; exact e2') hGn hGm (by omega) (by omega) (fun j hj => ?_) (fun j hj => ?_) (fun j hj => ?_), ⟨ho, ht, hp, by omega, fun k hk _ => ?_⟩, by omega⟩
    · rw [o2 j (.inl (by omega)), o1 j (.inl hj), hR0 j hj]
    · rw [o2 _ (.inl (by omega))]
      exact n1 j (by omega) (by omega)
    · exact n2 j (by omega) (by omega)
    · have hkN : k ≠ w.heap.size := by omega
      rw [hh, setCells_other _ _ _ _ _ hkN, setCells_other _ _ _ _ _ hkN]
      exact heap_alloc_old w.drew _ hk
  have hNc : ∀ j, j < G * 2 → ((w.drew.alloc (.cells ROW 31)).cell? ⟨w.heap.size, j, none⟩).isSome = true := fun j hj => by
    simp only [World.cell?, hNb]
    rw [Array.getElem?_eq_getElem (by omega)]
    rfl
  have hNf : ∀ j, (w.drew.alloc (.cells ROW 31)).frozen? ⟨w.heap.size, j, none⟩ = false := fun j => by simp only [World.frozen?, hNb]; simp
  have hOc : ∀ k j v, k < w.heap.size → w.cell? ⟨k, j, none⟩ = some v → (w.drew.alloc (.cells ROW 31)).cell? ⟨k, j, none⟩ = some v := fun k j v hk hq => by
    have e : (w.drew.alloc (.cells ROW 31)).heap[k]? = w.heap[k]? := heap_alloc_old w.drew _ hk
    simp only [World.cell?] at hq ⊢
    rw [e]
    exact hq
  have hcA : ∀ (W : World), (∀ x, W.cell? x = (w.drew.alloc (.cells ROW 31)).cell? x) → (∀ x, W.frozen? x = (w.drew.alloc (.cells ROW 31)).frozen? x) → ∀ ty dl dc, 0 < dl → (Builtin.copy_ #[24, 24] ty #[.slice (some ⟨w.heap.size, i * 2, none⟩) dl dc, .slice (some ⟨vb, 0, none⟩) 1 1]).run Tryz.prog W = .ok (goInt 1) (W.setCells w.heap.size (i * 2) (encLoad x)) := fun W hWc hWf ty dl dc hd => by
    have hm : Nat.min 1 dl = 1 := Nat.min_eq_left hd
    have q := run_copy_cellsN W 24 24 ty 31 w.heap.size (i * 2) dl dc ⟨vb, 0, none⟩ 1 1 2 (encLoad x) Tryz.underlying24 info_size (by rw [hm]; rfl)
      (fun j v hj => by
        rw [Addr.add_lit, hWc, Nat.zero_add]
        exact hOc vb j v hvl (hvs j v hj))
      (fun j hj => by
        have hj2 : j < 2 := hj
        rw [hWc]
        exact hNc _ (by omega)) (fun j _ => by rw [hWf]; exact hNf _) (encL_one x)
    rw [hm] at q
    exact q
  have hcB : ∀ (W : World), (∀ p, W.cell? p = ((w.drew.alloc (.cells ROW 31)).setCells w.heap.size (i * 2) (encLoad x)).cell? p) → (∀ p, W.frozen? p = ((w.drew.alloc (.cells ROW 31)).setCells w.heap.size (i * 2) (encLoad x)).frozen? p) → ∀ ty dl dc sl sc, Nat.min sl dl = ls.length - i → (Builtin.copy_ #[24, 24] ty #[.slice (some ⟨w.heap.size, (i + 1) * 2, none⟩) dl dc, .slice (some ⟨g, i * 2, none⟩) sl sc]).run Tryz.prog W = .ok (goInt ((ls.length - i : Nat) : Int)) (W.setCells w.heap.size ((i + 1) * 2) ((ls.drop i).flatMap encLoad)) := fun W hWc hWf ty dl dc sl sc hm => by
    have q := run_copy_cellsN W 24 24 ty 31 w.heap.size ((i + 1) * 2) dl dc ⟨g, i * 2, none⟩ sl sc 2 ((ls.drop i).flatMap encLoad) Tryz.underlying24 info_size (by rw [hdl, hm])
      (fun j v hj => by
        rw [Addr.add_lit, hWc, World.cell?_setCells_out _ _ _ _ _ (fun h _ => absurd h (by show g ≠ w.heap.size; omega))]
        refine hOc g _ v hgl (hcs (i * 2 + j) v ?_)
        rw [← flatL_drop, List.getElem?_drop] at hj
        exact hj)
      (fun j hj => by
        rw [hdl] at hj
        rw [hWc]
        exact isSome_setCells _ _ _ _ (fun k hk => by rw [hx2] at hk; exact hNc _ (by omega)) _ (hNc _ (by omega))) (fun j _ => by rw [hWf, World.frozen?_setCells]; exact hNf _) (flatL_one _)
    rw [hm] at q
    exact q
  have HFIN := hide hFIN
  have HA := hide hcA
  have HB := hide hcB
  have HRZ := hide (hrz 24)
  have hz2 : ¬ ((i : Int) = (ls.length : Int)) := by omega
  have hz3 : (c : Int) < (ls.length : Int) + 1 := by omega
  have hc63 : c ≤ 9223372036854775807 := by unfold maxLen at hmx; exact hmx
  have hG63 : G ≤ 9223372036854775807 := by unfold maxLen at hGm; exact hGm
  have hb4 : ¬ (c = i) := by omega
  have hG4 : ¬ (G = i) := by omega
  have hG5 : ¬ (G = i + 1) := by omega
  have hw1 : IntKind.i64.wrap ((i : Int) + 1) = (i : Int) + 1 := IntWalk.i64_in _ (by omega)
  have hw2 : IntKind.i64.wrap ((ls.length : Int) + 1 - (i : Int)) = (ls.length : Int) + 1 - (i : Int) := IntWalk.i64_in _ (by omega)
  have hb1 : (0 : Int) ≤ (i : Int) + 1 := by omega
  have hb2 : (i : Int) + 1 ≤ (ls.length : Int) + 1 := by omega
  have hb3 : (i : Int) ≤ (ls.length : Int) + 1 := by omega
  have hi2 : i ≤ ls.length := by omega
  have htn : ((i : Int) + 1).toNat = i + 1 := by omega
  clear hFIN hcA hcB hrz hNc hNf hOc hNb hR0 hcs hvs hcur htk hold hi0 hz0 hzs hzb hROW hRs htl hB hc hmx hsz h e2 hfl hGm hN
  go_enter Tryz.func35, Tryz.ntmps35
  go_wp2_with (at_builtin; go_loud (refine Lib.wpList_append_run _ rfl _ _ _ _ rfl _ _ rfl rfl _ _ HRZ.out ?_))
  have hcx := HA.out ((w.alloc (.cells ROW 31)).drew) (fun _ => rfl) (fun _ => rfl) 3 (ls.length + 1 - i) (G - i) (by omega)
  go_wp2_with (simp only [hcx])
  go_region_law (refine step_copy_runI rfl _ _ 24 24 rfl (.slice (some ⟨w.heap.size, (i + 1) * 2, none⟩) (ls.length + 1 - (i + 1)) (G - (i + 1))) (.slice (some ⟨g, i * 2, none⟩) (ls.length - i) (c - i)) (by simp [Act.eval, Act.put]) (by simp [Act.eval, Act.put]) (HB.out (((w.alloc (.cells ROW 31)).drew.setCells w.heap.size (i * 2) (encLoad x)).drew) (fun _ => rfl) (fun _ => rfl) _ _ _ _ _ (by simp only [Nat.min_def]; split <;> omega)) ?_)
  have hf := HFIN.out ((((w.alloc (.cells ROW 31)).drew.setCells w.heap.size (i * 2) (encLoad x)).drew).setCells w.heap.size ((i + 1) * 2) ((ls.drop i).flatMap encLoad)) (setCells_heap _ _ _ _ _ (setCells_heap _ _ _ _ _ rfl)) (by rw [(setCells_rest _ _ _ _).1, drew_setCells, (setCells_rest _ _ _ _).1]; rfl) (by rw [(setCells_rest _ _ _ _).2.1, drew_setCells, (setCells_rest _ _ _ _).2.1]; rfl) (by rw [(setCells_rest _ _ _ _).2.2, drew_setCells, (setCells_rest _ _ _ _).2.2]; rfl)
  have HF := hide hf
  clear hf
  go_wp2_with fail
  go_ret
  exact ⟨some ⟨w.heap.size, 0, none⟩, G, rfl, HF.out.1, HF.out.2.1, HF.out.2.2⟩
set_option maxHeartbeats 2000000 in
set_option maxRecDepth 100000 in
theorem insertLoad_end (B c vb : Nat) (A : Option Addr) (ls : List LoadR) (x : LoadR) (w : World) (h : OwnL w B (.slice A ls.length c) ls) (hn : ls.length ≤ 1000) (hBw : B ≤ w.heap.size) (hv : w.heap[vb]? = some (.cells (encLoad x).toArray 31 (0, 0))) :
    Calls Tryz.prog 35 #[.slice A ls.length c, .int .i64 ls.length, .slice (some ⟨vb, 0, none⟩) 1 1] w (InsPost B (.slice A ls.length c) ls ls.length x w) := by
  obtain ⟨i0, hi0, hz0, hzs, hzb⟩ := info_parts info_LdA
  have hfin : insL ls ls.length x = ls ++ [x] := by simp [insL]
  have HFIN := hide hfin
  have HO := hide h
  have hvs : ∀ (j : Nat) (u : Value), (encLoad x)[j]? = some u → w.cell? ((⟨vb, 0, none⟩ : Addr).add j) = some u := fun j u hj => by
    rw [Addr.add_lit, Nat.zero_add]
    simp only [World.cell?, hv]
    simpa using hj
  have HVS := hide hvs
  have hcc : ls.length ≤ c ∧ c ≤ 9223372036854775807 := by
    rcases h.2 with ⟨e, q⟩ | ⟨g, cap, cur, e, _, _, hc1, hc2, _⟩
    · injection e with e1 e2 e3
      omega
    · injection e with e1 e2 e3
      unfold maxLen at hc2
      omega
  obtain ⟨hc1, hc2⟩ := hcc
  have hcase : (A = none ∧ c = 0 ∧ ls.length = 0) ∨ ∃ g, A = some ⟨g, 0, none⟩ := by
    rcases h.2 with ⟨e, q⟩ | ⟨g, cap, cur, e, _⟩
    · injection e with e1 e2 e3
      exact .inl ⟨e1, e3, q⟩
    · injection e with e1 e2 e3
      exact .inr ⟨g, e1⟩
  clear hvs hfin h
  rcases hcase with ⟨rfl, rfl, h0⟩ | ⟨g, rfl⟩
  · have := List.length_eq_zero_iff.1 h0
    subst this
    go_enter Tryz.func35, Tryz.ntmps35
    go_wp2_with (at_builtin; refine wpList_app (sz := 2) (bytes := 16) Tryz.underlying24 hi0 hz0 hzs hzb rfl (by omega) (by omega) (fun _ => rfl) rfl _ _ rfl B rfl HO.out x (encL_one x) rfl HVS.out (by simp) hBw ?_; intro A1 c1 w1 ho1 hb1 hg1)
    go_ret
    exact ⟨A1, c1, by simp, by simpa [insL] using ho1, hg1, hb1.size⟩
  · go_enter Tryz.func35, Tryz.ntmps35
    go_wp2_with (at_builtin; refine wpList_app (sz := 2) (bytes := 16) Tryz.underlying24 hi0 hz0 hzs hzb rfl (by omega) (by omega) (fun _ => rfl) rfl _ _ rfl B rfl HO.out x (encL_one x) rfl HVS.out (by omega) hBw ?_; intro A1 c1 w1 ho1 hb1 hg1)
    all_goals
      go_ret
      exact ⟨A1, c1, rfl, by rw [HFIN.out]; exact ho1, hg1, hb1.size⟩
/-- One load is put into a row of the call's own. -/
theorem insertLoad (B c i vb : Nat) (A : Option Addr) (ls : List LoadR) (x : LoadR) (w : World) (h : OwnL w B (.slice A ls.length c) ls) (hi : i ≤ ls.length) (hn : ls.length ≤ 1000) (hBw : B ≤ w.heap.size) (hv : w.heap[vb]? = some (.cells (encLoad x).toArray 31 (0, 0))) (hne : ∀ g, (Value.slice A ls.length c).ownBlock = some g → vb ≠ g) :
    Calls Tryz.prog 35 #[.slice A ls.length c, .int .i64 i, .slice (some ⟨vb, 0, none⟩) 1 1] w (InsPost B (.slice A ls.length c) ls i x w) := by
  by_cases he : i = ls.length
  · subst he
    exact insertLoad_end B c vb A ls x w h hn hBw hv
  · obtain ⟨g, rfl, _, _⟩ := own_addr h (by omega)
    by_cases hr : ls.length + 1 ≤ c
    · exact insertLoad_shift B g c i vb ls x w h (by omega) hn hr hv (hne g rfl)
    · exact insertLoad_grow B g c i vb ls x w h (by omega) hn (by omega) hv
end Go.Proofs.YtajodbhbmfjmjaaGreatDoor
namespace Go.Proofs.YtajodbhbmfjmjaaGreatDoor
open Go.RowKit

/-- Where a load comes among others: behind all that are not further on. -/
def posL (ls : List LoadR) (a : Int) : Nat := (ls.takeWhile fun x => decide (x.at_ ≤ a)).length
theorem posL_le (ls : List LoadR) (a : Int) : posL ls a ≤ ls.length := (List.takeWhile_sublist _).length_le
theorem posL_at {ls : List LoadR} {a : Int} {k : Nat} (hk : k ≤ ls.length) (h : ∀ j (hj : j < ls.length), j < k → ls[j].at_ ≤ a) (he : ∀ hk' : k < ls.length, a < ls[k].at_) : posL ls a = k := by
  unfold posL
  induction ls generalizing k with
  | nil => simp at hk; simp [hk]
  | cons x ls ih =>
    cases k with
    | zero =>
      have := he (by simp)
      rw [List.takeWhile_cons_of_neg (by simpa using this)]
      rfl
    | succ k =>
      have h0 := h 0 (by simp) (by omega)
      rw [List.takeWhile_cons_of_pos (by simpa using h0), List.length_cons]
      rw [ih (k := k) (by simpa using hk) (fun j hj hjk => h (j + 1) (by simpa using hj) (by omega)) (fun hk' => he (by simpa using hk'))]
/-- What AddLoad answers: the beam's fields, its loads, a code. -/
@[irreducible] noncomputable def addR (nm : ByteArray) (span wd dp wood : Int) (ls : List LoadR) (a t : Int) : (ByteArray × Int × Int × Int × Int) × List LoadR × Int :=
  if vBeam nm span wd dp wood ls then (if ldOk span a t then (if 8 ≤ ls.length then ((⟨#[]⟩, 0, 0, 0, 0), [], 5) else ((nm, span, wd, dp, wood), insL ls (posL ls a) ⟨a, t⟩, 0)) else ((⟨#[]⟩, 0, 0, 0, 0), [], 2)) else ((⟨#[]⟩, 0, 0, 0, 0), [], 1)
section
variable {nm : ByteArray} {span wd dp wood a t : Int} {ls : List LoadR}
theorem addR_1 (h : vBeam nm span wd dp wood ls = false) : addR nm span wd dp wood ls a t = ((⟨#[]⟩, 0, 0, 0, 0), [], 1) := by unfold addR; simp [h]
theorem addR_2 (h : vBeam nm span wd dp wood ls = true) (h2 : ldOk span a t = false) : addR nm span wd dp wood ls a t = ((⟨#[]⟩, 0, 0, 0, 0), [], 2) := by unfold addR; simp [h, h2]
theorem addR_3 (h : vBeam nm span wd dp wood ls = true) (h2 : ldOk span a t = true) (h3 : 8 ≤ ls.length) : addR nm span wd dp wood ls a t = ((⟨#[]⟩, 0, 0, 0, 0), [], 5) := by unfold addR; simp [h, h2, h3]
theorem addR_4 (h : vBeam nm span wd dp wood ls = true) (h2 : ldOk span a t = true) (h3 : ¬ 8 ≤ ls.length) : addR nm span wd dp wood ls a t = ((nm, span, wd, dp, wood), insL ls (posL ls a) ⟨a, t⟩, 0) := by unfold addR; simp [h, h2, h3]
end
/-- A beam with loads of the call's own, and a code, as a result. -/
def BmRes (P : (ByteArray × Int × Int × Int × Int) × List LoadR × Int → Prop) (w : World) (e : Ending) (w' : World) : Prop :=
  ∃ (nm : ByteArray) (x1 x2 x3 x4 : Int) (A : Option Addr) (c : Nat) (ls : List LoadR) (code : Int), e = .returned (.tuple #[.agg #[.string nm, .int .i64 x1, .int .i64 x2, .int .i64 x3, .int .i64 x4, .slice A ls.length c], .int .i64 code]) ∧ P ((nm, x1, x2, x3, x4), ls, code) ∧ nm.size ≤ maxLen ∧ ls.length ≤ 1048576 ∧ OwnL w' w.heap.size (.slice A ls.length c) ls ∧ Below w.heap.size w w'
theorem bmRes_nil {P : (ByteArray × Int × Int × Int × Int) × List LoadR × Int → Prop} {w w' : World} {code : Int} (h : P ((⟨#[]⟩, 0, 0, 0, 0), [], code)) (hb : Below w.heap.size w w') : BmRes P w (.returned (.tuple #[.agg #[.string ⟨#[]⟩, .int .i64 0, .int .i64 0, .int .i64 0, .int .i64 0, .slice none 0 0], .int .i64 code])) w' :=
  ⟨⟨#[]⟩, 0, 0, 0, 0, none, 0, [], code, rfl, h, by simp [maxLen, ByteArray.size], by simp, Own.nil, hb⟩
theorem own_setOut {w : World} {B k j : Nat} {v x : Value} {ls : List LoadR} (h : OwnL w B v ls) (hk : k < B) : OwnL (w.setCell ⟨k, j, none⟩ x) B v ls :=
  Own.kept h (row := some k) ⟨rfl, rfl, rfl, by simp [World.setCell], fun i hi hn => by simp [World.setCell, Array.getElem?_modify, show ¬ k = i from fun e => hn (by rw [e])]⟩ (by
    cases e : v.ownBlock with
    | none => exact .inl rfl
    | some g => exact .inr fun q => by injection q with q; have := (h.lt g e).1; omega)
theorem own_setType {w : World} {B k j : Nat} {v x : Value} {ls : List LoadR} {cs : Array Value} {T : TypeId} {fr : Nat × Nat} (h : OwnL w B v ls) (hk : w.heap[k]? = some (.cells cs T fr)) (hT : T ≠ 31) : OwnL (w.setCell ⟨k, j, none⟩ x) B v ls :=
  Own.kept h (row := some k) ⟨rfl, rfl, rfl, by simp [World.setCell], fun i hi hn => by simp [World.setCell, Array.getElem?_modify, show ¬ k = i from fun e => hn (by rw [e])]⟩ (by
    rcases h.2 with ⟨e, _⟩ | ⟨g, cap, cur, e, _, hc, _⟩
    · left
      rw [e]
      rfl
    · right
      intro q
      rw [e] at q
      injection q with q
      have hq : g = k := q
      subst hq
      rw [hc] at hk
      injection hk with hk
      injection hk with h1 h2 h3
      exact hT h2.symm)
set_option maxRecDepth 100000 in
theorem cloneLoad (ba oa c : Nat) (ls : List LoadR) (w : World) (h : SlAt encLoad 2 w (some ⟨ba, oa, none⟩) ls) (hn : ls.length ≤ 100000) :
    Calls Tryz.prog 56 #[.slice (some ⟨ba, oa, none⟩) ls.length c] w fun e w' => ∃ (A : Option Addr) (c' : Nat), e = .returned (.slice A ls.length c') ∧ OwnL w' w.heap.size (.slice A ls.length c') ls ∧ Below w.heap.size w w' := by
  obtain ⟨i0, hi0, hz0, hzs, hzb⟩ := info_parts info_LdA
  have q22 : ∀ (w : World) (a : Option Addr) (n c n' c' : Nat), (binOp .eql 24 (.slice a n c) (.slice none n' c')).run Tryz.prog w = .ok (.bool a.isNone) w := fun w a n c n' c' => Lib.run_eql_slice_nil w _ _ a n c n' c' Tryz.underlying24
  have H := hide (h.below (w' := w.alloc (.cells #[] 31)) ((Below.refl _ _).alloc (Nat.le_refl _) _))
  have H0 := hide (own_made (enc := encLoad) (sz := 2) (T := 31) w rfl (Nat.le_refl _))
  clear h
  go_enter Tryz.func56, Tryz.ntmps56
  go_wp2_with (at_builtin; refine wpList_appAll (sz := 2) (bytes := 16) Tryz.underlying24 hi0 hz0 hzs hzb rfl (by omega) (by omega) (fun _ => rfl) encL_one (xs := []) rfl _ _ rfl w.heap.size rfl H0.out rfl H.out (by simp; omega) (by simp) ?_; intro A1 c1 w1 ho1 hb1 _hg1; have HO := hide ho1; have HB := hide (Below.trans ((Below.refl w.heap.size w).alloc (Nat.le_refl _) (.cells #[] 31)) hb1); clear ho1 hb1)
  go_ret
  exact ⟨A1, c1, by simp, by simpa using HO.out, HB.out⟩
set_option maxRecDepth 100000 in
theorem implcopyBeam (nm : ByteArray) (x1 x2 x3 x4 : Int) (ba oa c : Nat) (ls : List LoadR) (w : World) (h : SlAt encLoad 2 w (some ⟨ba, oa, none⟩) ls) (hn : ls.length ≤ 100000) :
    Calls Tryz.prog 34 #[.agg #[.string nm, .int .i64 x1, .int .i64 x2, .int .i64 x3, .int .i64 x4, .slice (some ⟨ba, oa, none⟩) ls.length c]] w fun e w' => ∃ (A : Option Addr) (c' : Nat), e = .returned (.agg #[.string nm, .int .i64 x1, .int .i64 x2, .int .i64 x3, .int .i64 x4, .slice A ls.length c']) ∧ OwnL w' w.heap.size (.slice A ls.length c') ls ∧ Below w.heap.size w w' := by
  have H := hide (h.below (w' := (w.alloc (.cells #[.string nm, .int .i64 x1, .int .i64 x2, .int .i64 x3, .int .i64 x4, .slice (some ⟨ba, oa, none⟩) ls.length c] 26)).alloc (.cells #[.string ⟨#[]⟩, .int .i64 0, .int .i64 0, .int .i64 0, .int .i64 0, .slice none 0 0] 26)) (by repeat (first | with_reducible exact Below.refl _ _ | with_reducible assumption | (with_reducible refine Below.drew ?_) | (with_reducible refine below_drewN ?_ _) | ((with_reducible refine Below.alloc ?_ ?_ _); rotate_left; (focus (first | omega | (simp; omega) | simp))) | ((with_reducible refine Below.setCell ?_ ?_ _); rotate_left; (focus (first | omega | (simp; omega) | simp))) | (refine Below.trans ?_ (Below.mono (by assumption) (by first | omega | (simp; omega) | simp))))))
  clear h
  go_enter Tryz.func34, Tryz.ntmps34
  go_wp2_with fail
  refine (cloneLoad ba oa c ls _ H.out hn).mono ?_
  rintro e w1 ⟨A1, c1, rfl, ho1, hb1⟩
  have hQ : w1.heap[w.heap.size]? = some (.cells #[.string nm, .int .i64 x1, .int .i64 x2, .int .i64 x3, .int .i64 x4, .slice (some ⟨ba, oa, none⟩) ls.length c] 26 (0, 0)) := (hb1.block w.heap.size (by simp; omega)).trans ((heap_alloc_old _ _ (by simp)).trans (heap_alloc_new w _))
  have hR : w1.heap[w.heap.size + 1]? = some (.cells #[.string ⟨#[]⟩, .int .i64 0, .int .i64 0, .int .i64 0, .int .i64 0, .slice none 0 0] 26 (0, 0)) := (hb1.block (w.heap.size + 1) (by simp)).trans (by simpa using heap_alloc_new (w.alloc (.cells #[.string nm, .int .i64 x1, .int .i64 x2, .int .i64 x3, .int .i64 x4, .slice (some ⟨ba, oa, none⟩) ls.length c] 26)) (.cells #[.string ⟨#[]⟩, .int .i64 0, .int .i64 0, .int .i64 0, .int .i64 0, .slice none 0 0] 26))
  have HB1 := hide (show Below w.heap.size w w1 from (show Below w.heap.size w _ from (by repeat (first | with_reducible exact Below.refl _ _ | with_reducible assumption | (with_reducible refine Below.drew ?_) | (with_reducible refine below_drewN ?_ _) | ((with_reducible refine Below.alloc ?_ ?_ _); rotate_left; (focus (first | omega | (simp; omega) | simp))) | ((with_reducible refine Below.setCell ?_ ?_ _); rotate_left; (focus (first | omega | (simp; omega) | simp))) | (refine Below.trans ?_ (Below.mono (by assumption) (by first | omega | (simp; omega) | simp)))))).trans (hb1.mono (by simp; omega)))
  have hz1 : w.heap.size + 2 ≤ w1.heap.size := by have := hb1.size; simp at this; omega
  have HO1 := hide (show OwnL w1 (w.heap.size + 2) (.slice A1 ls.length c1) ls from ho1.mono (by simp))
  have g0 : w1.cell? ⟨w.heap.size, 0, none⟩ = some (.string nm) := by simp [World.cell?, hQ]
  have g1 : w1.cell? ⟨w.heap.size, 1, none⟩ = some (.int .i64 x1) := by simp [World.cell?, hQ]
  have g2 : w1.cell? ⟨w.heap.size, 2, none⟩ = some (.int .i64 x2) := by simp [World.cell?, hQ]
  have g3 : w1.cell? ⟨w.heap.size, 3, none⟩ = some (.int .i64 x3) := by simp [World.cell?, hQ]
  have g4 : w1.cell? ⟨w.heap.size, 4, none⟩ = some (.int .i64 x4) := by simp [World.cell?, hQ]
  have g5 : w1.cell? ⟨w.heap.size, 5, none⟩ = some (.slice (some ⟨ba, oa, none⟩) ls.length c) := by simp [World.cell?, hQ]
  have f5 : w1.frozen? ⟨w.heap.size, 5, none⟩ = false := by simp [World.frozen?, hQ]
  have r0 : w1.cell? ⟨w.heap.size + 1, 0, none⟩ = some (.string ⟨#[]⟩) := by simp [World.cell?, hR]
  have r1 : w1.cell? ⟨w.heap.size + 1, 1, none⟩ = some (.int .i64 0) := by simp [World.cell?, hR]
  have r2 : w1.cell? ⟨w.heap.size + 1, 2, none⟩ = some (.int .i64 0) := by simp [World.cell?, hR]
  have r3 : w1.cell? ⟨w.heap.size + 1, 3, none⟩ = some (.int .i64 0) := by simp [World.cell?, hR]
  have r4 : w1.cell? ⟨w.heap.size + 1, 4, none⟩ = some (.int .i64 0) := by simp [World.cell?, hR]
  have r5 : w1.cell? ⟨w.heap.size + 1, 5, none⟩ = some (.slice none 0 0) := by simp [World.cell?, hR]
  have z0 : ∀ j, w1.frozen? ⟨w.heap.size + 1, j, none⟩ = false := fun j => by simp [World.frozen?, hR]
  have y0 := z0 0
  have y1 := z0 1
  have y2 := z0 2
  have y3 := z0 3
  have y4 := z0 4
  have y5 := z0 5
  clear hQ hR ho1 hb1 H z0
  go_wp2_with fail
  refine bodyPost_ret (v := .agg #[.string nm, .int .i64 x1, .int .i64 x2, .int .i64 x3, .int .i64 x4, .slice A1 ls.length c1]) (by simp [results, Tryz.results34, go_sem, r0, r1, r2, r3, r4, r5]) rfl ⟨A1, c1, rfl, ?_, ?_⟩
  · refine Own.mono (B := w.heap.size + 2) ?_ (by omega)
    repeat (first | with_reducible exact HO1.out | with_reducible refine own_setOut ?_ (by omega))
  · have hb := HB1.out
    exact (by repeat (first | with_reducible exact Below.refl _ _ | with_reducible assumption | (with_reducible refine Below.drew ?_) | (with_reducible refine below_drewN ?_ _) | ((with_reducible refine Below.alloc ?_ ?_ _); rotate_left; (focus (first | omega | (simp; omega) | simp))) | ((with_reducible refine Below.setCell ?_ ?_ _); rotate_left; (focus (first | omega | (simp; omega) | simp))) | (refine Below.trans ?_ (Below.mono (by assumption) (by first | omega | (simp; omega) | simp)))))
set_option maxRecDepth 100000 in
set_option maxHeartbeats 4000000 in
theorem implAddLoad (nm : ByteArray) (span wd dp wood : Int) (ba oa c : Nat) (ls : List LoadR) (a t : Int) (w : World) (h : SlAt encLoad 2 w (some ⟨ba, oa, none⟩) ls) (hn : ls.length ≤ 1048576) (hs : nm.size ≤ maxLen) :
    Calls Tryz.prog 13 #[.agg #[.string nm, .int .i64 span, .int .i64 wd, .int .i64 dp, .int .i64 wood, .slice (some ⟨ba, oa, none⟩) ls.length c], .agg #[.int .i64 a, .int .i64 t]] w (BmRes (fun r => addR nm span wd dp wood ls a t = r) w) := by
  have HX := hide h
  clear h
  have HBK := hide (fun (W : World) (h : Below (w.heap.size + 3) (((w.alloc (.cells #[.string nm, .int .i64 span, .int .i64 wd, .int .i64 dp, .int .i64 wood, .slice (some ⟨ba, oa, none⟩) ls.length c] 26)).alloc (.cells #[.int .i64 a, .int .i64 t] 31)).alloc (.cells #[.string ⟨#[]⟩, .int .i64 0, .int .i64 0, .int .i64 0, .int .i64 0, .slice none 0 0] 26)) W) => (show W.heap[w.heap.size]? = some (.cells #[.string nm, .int .i64 span, .int .i64 wd, .int .i64 dp, .int .i64 wood, .slice (some ⟨ba, oa, none⟩) ls.length c] 26 (0, 0)) ∧ W.heap[w.heap.size + 1]? = some (.cells #[.int .i64 a, .int .i64 t] 31 (0, 0)) ∧ W.heap[w.heap.size + 2]? = some (.cells #[.string ⟨#[]⟩, .int .i64 0, .int .i64 0, .int .i64 0, .int .i64 0, .slice none 0 0] 26 (0, 0)) ∧ Below w.heap.size w W ∧ w.heap.size + 3 ≤ W.heap.size from by
    have z1 : (w.alloc (.cells #[.string nm, .int .i64 span, .int .i64 wd, .int .i64 dp, .int .i64 wood, .slice (some ⟨ba, oa, none⟩) ls.length c] 26)).heap.size = w.heap.size + 1 := by simp
    have z2 : ((w.alloc (.cells #[.string nm, .int .i64 span, .int .i64 wd, .int .i64 dp, .int .i64 wood, .slice (some ⟨ba, oa, none⟩) ls.length c] 26)).alloc (.cells #[.int .i64 a, .int .i64 t] 31)).heap.size = w.heap.size + 2 := by simp
    have z3 : (((w.alloc (.cells #[.string nm, .int .i64 span, .int .i64 wd, .int .i64 dp, .int .i64 wood, .slice (some ⟨ba, oa, none⟩) ls.length c] 26)).alloc (.cells #[.int .i64 a, .int .i64 t] 31)).alloc (.cells #[.string ⟨#[]⟩, .int .i64 0, .int .i64 0, .int .i64 0, .int .i64 0, .slice none 0 0] 26)).heap.size = w.heap.size + 3 := by simp
    refine ⟨(h.block _ (by omega)).trans ((heap_alloc_old _ _ (by omega)).trans ((heap_alloc_old _ _ (by omega)).trans (heap_alloc_new w _))), (h.block _ (by omega)).trans ((heap_alloc_old _ _ (by omega)).trans ?_), (h.block _ (by omega)).trans ?_, (show Below w.heap.size w (((w.alloc (.cells #[.string nm, .int .i64 span, .int .i64 wd, .int .i64 dp, .int .i64 wood, .slice (some ⟨ba, oa, none⟩) ls.length c] 26)).alloc (.cells #[.int .i64 a, .int .i64 t] 31)).alloc (.cells #[.string ⟨#[]⟩, .int .i64 0, .int .i64 0, .int .i64 0, .int .i64 0, .slice none 0 0] 26)) from (by repeat (first | with_reducible exact Below.refl _ _ | with_reducible assumption | (with_reducible refine Below.drew ?_) | (with_reducible refine below_drewN ?_ _) | ((with_reducible refine Below.alloc ?_ ?_ _); rotate_left; (focus (first | omega | (simp; omega) | simp))) | ((with_reducible refine Below.setCell ?_ ?_ _); rotate_left; (focus (first | omega | (simp; omega) | simp))) | (refine Below.trans ?_ (Below.mono (by assumption) (by first | omega | (simp; omega) | simp)))))).trans (h.mono (by omega)), by have := h.size; omega⟩
    · have q := heap_alloc_new (w.alloc (.cells #[.string nm, .int .i64 span, .int .i64 wd, .int .i64 dp, .int .i64 wood, .slice (some ⟨ba, oa, none⟩) ls.length c] 26)) (.cells #[.int .i64 a, .int .i64 t] 31)
      rw [z1] at q
      exact q
    · have q := heap_alloc_new ((w.alloc (.cells #[.string nm, .int .i64 span, .int .i64 wd, .int .i64 dp, .int .i64 wood, .slice (some ⟨ba, oa, none⟩) ls.length c] 26)).alloc (.cells #[.int .i64 a, .int .i64 t] 31)) (.cells #[.string ⟨#[]⟩, .int .i64 0, .int .i64 0, .int .i64 0, .int .i64 0, .slice none 0 0] 26)
      rw [z2] at q
      exact q))
  have HXW := hide (fun (W : World) (h : Below (w.heap.size + 3) (((w.alloc (.cells #[.string nm, .int .i64 span, .int .i64 wd, .int .i64 dp, .int .i64 wood, .slice (some ⟨ba, oa, none⟩) ls.length c] 26)).alloc (.cells #[.int .i64 a, .int .i64 t] 31)).alloc (.cells #[.string ⟨#[]⟩, .int .i64 0, .int .i64 0, .int .i64 0, .int .i64 0, .slice none 0 0] 26)) W) => (show SlAt encLoad 2 W (some ⟨ba, oa, none⟩) ls from HX.out.below ((HBK.out W h).2.2.2.1)))
  have B0 := hide (show Below (w.heap.size + 3) (((w.alloc (.cells #[.string nm, .int .i64 span, .int .i64 wd, .int .i64 dp, .int .i64 wood, .slice (some ⟨ba, oa, none⟩) ls.length c] 26)).alloc (.cells #[.int .i64 a, .int .i64 t] 31)).alloc (.cells #[.string ⟨#[]⟩, .int .i64 0, .int .i64 0, .int .i64 0, .int .i64 0, .slice none 0 0] 26)) (((w.alloc (.cells #[.string nm, .int .i64 span, .int .i64 wd, .int .i64 dp, .int .i64 wood, .slice (some ⟨ba, oa, none⟩) ls.length c] 26)).alloc (.cells #[.int .i64 a, .int .i64 t] 31)).alloc (.cells #[.string ⟨#[]⟩, .int .i64 0, .int .i64 0, .int .i64 0, .int .i64 0, .slice none 0 0] 26)) from Below.refl _ _)
  have z0 : (((w.alloc (.cells #[.string nm, .int .i64 span, .int .i64 wd, .int .i64 dp, .int .i64 wood, .slice (some ⟨ba, oa, none⟩) ls.length c] 26)).alloc (.cells #[.int .i64 a, .int .i64 t] 31)).alloc (.cells #[.string ⟨#[]⟩, .int .i64 0, .int .i64 0, .int .i64 0, .int .i64 0, .slice none 0 0] 26)).heap.size = w.heap.size + 3 := by simp
  go_enter Tryz.func13, Tryz.ntmps13
  go_wp2_with fail
  refine (implValidBeam nm span wd dp wood (some ⟨ba, oa, none⟩) c ls _ (HXW.out _ B0.out) hn hs).mono ?_
  rintro e w1 ⟨rfl, hb1⟩
  have B1 := hide (show Below (w.heap.size + 3) (((w.alloc (.cells #[.string nm, .int .i64 span, .int .i64 wd, .int .i64 dp, .int .i64 wood, .slice (some ⟨ba, oa, none⟩) ls.length c] 26)).alloc (.cells #[.int .i64 a, .int .i64 t] 31)).alloc (.cells #[.string ⟨#[]⟩, .int .i64 0, .int .i64 0, .int .i64 0, .int .i64 0, .slice none 0 0] 26)) w1 from hb1.mono (by omega))
  clear hb1
  cases hv : vBeam nm span wd dp wood ls
  · have e := hide (addR_1 (a := a) (t := t) hv)
    obtain ⟨hQ, hL, hR, hBW, hzW⟩ := HBK.out _ B1.out
    have g0 : w1.cell? ⟨w.heap.size, 0, none⟩ = some (.string nm) := by simp [World.cell?, hQ]
    have g1 : w1.cell? ⟨w.heap.size, 1, none⟩ = some (.int .i64 span) := by simp [World.cell?, hQ]
    have g2 : w1.cell? ⟨w.heap.size, 2, none⟩ = some (.int .i64 wd) := by simp [World.cell?, hQ]
    have g3 : w1.cell? ⟨w.heap.size, 3, none⟩ = some (.int .i64 dp) := by simp [World.cell?, hQ]
    have g4 : w1.cell? ⟨w.heap.size, 4, none⟩ = some (.int .i64 wood) := by simp [World.cell?, hQ]
    have g5 : w1.cell? ⟨w.heap.size, 5, none⟩ = some (.slice (some ⟨ba, oa, none⟩) ls.length c) := by simp [World.cell?, hQ]
    have l0 : w1.cell? ⟨w.heap.size + 1, 0, none⟩ = some (.int .i64 a) := by simp [World.cell?, hL]
    have l1 : w1.cell? ⟨w.heap.size + 1, 1, none⟩ = some (.int .i64 t) := by simp [World.cell?, hL]
    have r0 : w1.cell? ⟨w.heap.size + 2, 0, none⟩ = some (.string ⟨#[]⟩) := by simp [World.cell?, hR]
    have y0 : w1.frozen? ⟨w.heap.size + 2, 0, none⟩ = false := by simp [World.frozen?, hR]
    have r1 : w1.cell? ⟨w.heap.size + 2, 1, none⟩ = some (.int .i64 0) := by simp [World.cell?, hR]
    have y1 : w1.frozen? ⟨w.heap.size + 2, 1, none⟩ = false := by simp [World.frozen?, hR]
    have r2 : w1.cell? ⟨w.heap.size + 2, 2, none⟩ = some (.int .i64 0) := by simp [World.cell?, hR]
    have y2 : w1.frozen? ⟨w.heap.size + 2, 2, none⟩ = false := by simp [World.frozen?, hR]
    have r3 : w1.cell? ⟨w.heap.size + 2, 3, none⟩ = some (.int .i64 0) := by simp [World.cell?, hR]
    have y3 : w1.frozen? ⟨w.heap.size + 2, 3, none⟩ = false := by simp [World.frozen?, hR]
    have r4 : w1.cell? ⟨w.heap.size + 2, 4, none⟩ = some (.int .i64 0) := by simp [World.cell?, hR]
    have y4 : w1.frozen? ⟨w.heap.size + 2, 4, none⟩ = false := by simp [World.frozen?, hR]
    have r5 : w1.cell? ⟨w.heap.size + 2, 5, none⟩ = some (.slice none 0 0) := by simp [World.cell?, hR]
    have y5 : w1.frozen? ⟨w.heap.size + 2, 5, none⟩ = false := by simp [World.frozen?, hR]
    have zq1 : w.heap.size < w1.heap.size := by omega
    have zl1 : w.heap.size + 1 < w1.heap.size := by omega
    have zr1 : w.heap.size + 2 < w1.heap.size := by omega
    clear hQ hL hR
    go_wp2_with fail
    refine bodyPost_ret (v := .tuple #[.agg #[.string ⟨#[]⟩, .int .i64 0, .int .i64 0, .int .i64 0, .int .i64 0, .slice none 0 0], .int .i64 1]) (by simp [results, Tryz.results13, go_sem, r0, r1, r2, r3, r4, r5]) rfl ?_
    exact bmRes_nil e.out (by repeat (first | with_reducible exact Below.refl _ _ | with_reducible assumption | (with_reducible refine Below.drew ?_) | (with_reducible refine below_drewN ?_ _) | ((with_reducible refine Below.alloc ?_ ?_ _); rotate_left; (focus (first | omega | (simp; omega) | simp))) | ((with_reducible refine Below.setCell ?_ ?_ _); rotate_left; (focus (first | omega | (simp; omega) | simp))) | (refine Below.trans ?_ (Below.mono (by assumption) (by first | omega | (simp; omega) | simp)))))
  generalize hW0 : (((w.alloc (.cells #[.string nm, .int .i64 span, .int .i64 wd, .int .i64 dp, .int .i64 wood, .slice (some ⟨ba, oa, none⟩) ls.length c] 26)).alloc (.cells #[.int .i64 a, .int .i64 t] 31)).alloc (.cells #[.string ⟨#[]⟩, .int .i64 0, .int .i64 0, .int .i64 0, .int .i64 0, .slice none 0 0] 26)) = W0 at *
  · obtain ⟨hQ, hL, hR, hBW, hzW⟩ := HBK.out _ B1.out
    have g0 : w1.cell? ⟨w.heap.size, 0, none⟩ = some (.string nm) := by simp [World.cell?, hQ]
    have g1 : w1.cell? ⟨w.heap.size, 1, none⟩ = some (.int .i64 span) := by simp [World.cell?, hQ]
    have g2 : w1.cell? ⟨w.heap.size, 2, none⟩ = some (.int .i64 wd) := by simp [World.cell?, hQ]
    have g3 : w1.cell? ⟨w.heap.size, 3, none⟩ = some (.int .i64 dp) := by simp [World.cell?, hQ]
    have g4 : w1.cell? ⟨w.heap.size, 4, none⟩ = some (.int .i64 wood) := by simp [World.cell?, hQ]
    have g5 : w1.cell? ⟨w.heap.size, 5, none⟩ = some (.slice (some ⟨ba, oa, none⟩) ls.length c) := by simp [World.cell?, hQ]
    have l0 : w1.cell? ⟨w.heap.size + 1, 0, none⟩ = some (.int .i64 a) := by simp [World.cell?, hL]
    have l1 : w1.cell? ⟨w.heap.size + 1, 1, none⟩ = some (.int .i64 t) := by simp [World.cell?, hL]
    have r0 : w1.cell? ⟨w.heap.size + 2, 0, none⟩ = some (.string ⟨#[]⟩) := by simp [World.cell?, hR]
    have y0 : w1.frozen? ⟨w.heap.size + 2, 0, none⟩ = false := by simp [World.frozen?, hR]
    have r1 : w1.cell? ⟨w.heap.size + 2, 1, none⟩ = some (.int .i64 0) := by simp [World.cell?, hR]
    have y1 : w1.frozen? ⟨w.heap.size + 2, 1, none⟩ = false := by simp [World.frozen?, hR]
    have r2 : w1.cell? ⟨w.heap.size + 2, 2, none⟩ = some (.int .i64 0) := by simp [World.cell?, hR]
    have y2 : w1.frozen? ⟨w.heap.size + 2, 2, none⟩ = false := by simp [World.frozen?, hR]
    have r3 : w1.cell? ⟨w.heap.size + 2, 3, none⟩ = some (.int .i64 0) := by simp [World.cell?, hR]
    have y3 : w1.frozen? ⟨w.heap.size + 2, 3, none⟩ = false := by simp [World.frozen?, hR]
    have r4 : w1.cell? ⟨w.heap.size + 2, 4, none⟩ = some (.int .i64 0) := by simp [World.cell?, hR]
    have y4 : w1.frozen? ⟨w.heap.size + 2, 4, none⟩ = false := by simp [World.frozen?, hR]
    have r5 : w1.cell? ⟨w.heap.size + 2, 5, none⟩ = some (.slice none 0 0) := by simp [World.cell?, hR]
    have y5 : w1.frozen? ⟨w.heap.size + 2, 5, none⟩ = false := by simp [World.frozen?, hR]
    have zq1 : w.heap.size < w1.heap.size := by omega
    have zl1 : w.heap.size + 1 < w1.heap.size := by omega
    have zr1 : w.heap.size + 2 < w1.heap.size := by omega
    clear hQ hL hR
    go_wp2_with fail
    refine (implisLoad nm span wd dp wood (some ⟨ba, oa, none⟩) ls.length c a t _).mono ?_
    rintro e w2 ⟨rfl, hb2⟩
    have B2 := hide (B1.out.trans (hb2.mono (by omega)))
    clear hb2
    clear g0 g1 g2 g3 g4 g5 l0 l1 r0 r1 r2 r3 r4 r5 y0 y1 y2 y3 y4 y5 hBW hzW
    cases hl : ldOk span a t
    · have e := hide (addR_2 hv hl)
      obtain ⟨hQ, hL, hR, hBW, hzW⟩ := HBK.out _ B2.out
      have g0 : w2.cell? ⟨w.heap.size, 0, none⟩ = some (.string nm) := by simp [World.cell?, hQ]
      have g1 : w2.cell? ⟨w.heap.size, 1, none⟩ = some (.int .i64 span) := by simp [World.cell?, hQ]
      have g2 : w2.cell? ⟨w.heap.size, 2, none⟩ = some (.int .i64 wd) := by simp [World.cell?, hQ]
      have g3 : w2.cell? ⟨w.heap.size, 3, none⟩ = some (.int .i64 dp) := by simp [World.cell?, hQ]
      have g4 : w2.cell? ⟨w.heap.size, 4, none⟩ = some (.int .i64 wood) := by simp [World.cell?, hQ]
      have g5 : w2.cell? ⟨w.heap.size, 5, none⟩ = some (.slice (some ⟨ba, oa, none⟩) ls.length c) := by simp [World.cell?, hQ]
      have l0 : w2.cell? ⟨w.heap.size + 1, 0, none⟩ = some (.int .i64 a) := by simp [World.cell?, hL]
      have l1 : w2.cell? ⟨w.heap.size + 1, 1, none⟩ = some (.int .i64 t) := by simp [World.cell?, hL]
      have r0 : w2.cell? ⟨w.heap.size + 2, 0, none⟩ = some (.string ⟨#[]⟩) := by simp [World.cell?, hR]
      have y0 : w2.frozen? ⟨w.heap.size + 2, 0, none⟩ = false := by simp [World.frozen?, hR]
      have r1 : w2.cell? ⟨w.heap.size + 2, 1, none⟩ = some (.int .i64 0) := by simp [World.cell?, hR]
      have y1 : w2.frozen? ⟨w.heap.size + 2, 1, none⟩ = false := by simp [World.frozen?, hR]
      have r2 : w2.cell? ⟨w.heap.size + 2, 2, none⟩ = some (.int .i64 0) := by simp [World.cell?, hR]
      have y2 : w2.frozen? ⟨w.heap.size + 2, 2, none⟩ = false := by simp [World.frozen?, hR]
      have r3 : w2.cell? ⟨w.heap.size + 2, 3, none⟩ = some (.int .i64 0) := by simp [World.cell?, hR]
      have y3 : w2.frozen? ⟨w.heap.size + 2, 3, none⟩ = false := by simp [World.frozen?, hR]
      have r4 : w2.cell? ⟨w.heap.size + 2, 4, none⟩ = some (.int .i64 0) := by simp [World.cell?, hR]
      have y4 : w2.frozen? ⟨w.heap.size + 2, 4, none⟩ = false := by simp [World.frozen?, hR]
      have r5 : w2.cell? ⟨w.heap.size + 2, 5, none⟩ = some (.slice none 0 0) := by simp [World.cell?, hR]
      have y5 : w2.frozen? ⟨w.heap.size + 2, 5, none⟩ = false := by simp [World.frozen?, hR]
      have zq2 : w.heap.size < w2.heap.size := by omega
      have zl2 : w.heap.size + 1 < w2.heap.size := by omega
      have zr2 : w.heap.size + 2 < w2.heap.size := by omega
      clear hQ hL hR
      go_wp2_with fail
      refine bodyPost_ret (v := .tuple #[.agg #[.string ⟨#[]⟩, .int .i64 0, .int .i64 0, .int .i64 0, .int .i64 0, .slice none 0 0], .int .i64 2]) (by simp [results, Tryz.results13, go_sem, r0, r1, r2, r3, r4, r5]) rfl ?_
      exact bmRes_nil e.out (by repeat (first | with_reducible exact Below.refl _ _ | with_reducible assumption | (with_reducible refine Below.drew ?_) | (with_reducible refine below_drewN ?_ _) | ((with_reducible refine Below.alloc ?_ ?_ _); rotate_left; (focus (first | omega | (simp; omega) | simp))) | ((with_reducible refine Below.setCell ?_ ?_ _); rotate_left; (focus (first | omega | (simp; omega) | simp))) | (refine Below.trans ?_ (Below.mono (by assumption) (by first | omega | (simp; omega) | simp)))))
    by_cases h8 : 8 ≤ ls.length
    · have e := hide (addR_3 hv hl h8)
      obtain ⟨hQ, hL, hR, hBW, hzW⟩ := HBK.out _ B2.out
      have g0 : w2.cell? ⟨w.heap.size, 0, none⟩ = some (.string nm) := by simp [World.cell?, hQ]
      have g1 : w2.cell? ⟨w.heap.size, 1, none⟩ = some (.int .i64 span) := by simp [World.cell?, hQ]
      have g2 : w2.cell? ⟨w.heap.size, 2, none⟩ = some (.int .i64 wd) := by simp [World.cell?, hQ]
      have g3 : w2.cell? ⟨w.heap.size, 3, none⟩ = some (.int .i64 dp) := by simp [World.cell?, hQ]
      have g4 : w2.cell? ⟨w.heap.size, 4, none⟩ = some (.int .i64 wood) := by simp [World.cell?, hQ]
      have g5 : w2.cell? ⟨w.heap.size, 5, none⟩ = some (.slice (some ⟨ba, oa, none⟩) ls.length c) := by simp [World.cell?, hQ]
      have l0 : w2.cell? ⟨w.heap.size + 1, 0, none⟩ = some (.int .i64 a) := by simp [World.cell?, hL]
      have l1 : w2.cell? ⟨w.heap.size + 1, 1, none⟩ = some (.int .i64 t) := by simp [World.cell?, hL]
      have r0 : w2.cell? ⟨w.heap.size + 2, 0, none⟩ = some (.string ⟨#[]⟩) := by simp [World.cell?, hR]
      have y0 : w2.frozen? ⟨w.heap.size + 2, 0, none⟩ = false := by simp [World.frozen?, hR]
      have r1 : w2.cell? ⟨w.heap.size + 2, 1, none⟩ = some (.int .i64 0) := by simp [World.cell?, hR]
      have y1 : w2.frozen? ⟨w.heap.size + 2, 1, none⟩ = false := by simp [World.frozen?, hR]
      have r2 : w2.cell? ⟨w.heap.size + 2, 2, none⟩ = some (.int .i64 0) := by simp [World.cell?, hR]
      have y2 : w2.frozen? ⟨w.heap.size + 2, 2, none⟩ = false := by simp [World.frozen?, hR]
      have r3 : w2.cell? ⟨w.heap.size + 2, 3, none⟩ = some (.int .i64 0) := by simp [World.cell?, hR]
      have y3 : w2.frozen? ⟨w.heap.size + 2, 3, none⟩ = false := by simp [World.frozen?, hR]
      have r4 : w2.cell? ⟨w.heap.size + 2, 4, none⟩ = some (.int .i64 0) := by simp [World.cell?, hR]
      have y4 : w2.frozen? ⟨w.heap.size + 2, 4, none⟩ = false := by simp [World.frozen?, hR]
      have r5 : w2.cell? ⟨w.heap.size + 2, 5, none⟩ = some (.slice none 0 0) := by simp [World.cell?, hR]
      have y5 : w2.frozen? ⟨w.heap.size + 2, 5, none⟩ = false := by simp [World.frozen?, hR]
      have zq2 : w.heap.size < w2.heap.size := by omega
      have zl2 : w.heap.size + 1 < w2.heap.size := by omega
      have zr2 : w.heap.size + 2 < w2.heap.size := by omega
      clear hQ hL hR
      have d8 : decide ((8 : Int) ≤ (ls.length : Int)) = true := by simp; omega
      clear h8
      go_wp2_with fail
      refine bodyPost_ret (v := .tuple #[.agg #[.string ⟨#[]⟩, .int .i64 0, .int .i64 0, .int .i64 0, .int .i64 0, .slice none 0 0], .int .i64 5]) (by simp [results, Tryz.results13, go_sem, r0, r1, r2, r3, r4, r5]) rfl ?_
      exact bmRes_nil e.out (by repeat (first | with_reducible exact Below.refl _ _ | with_reducible assumption | (with_reducible refine Below.drew ?_) | (with_reducible refine below_drewN ?_ _) | ((with_reducible refine Below.alloc ?_ ?_ _); rotate_left; (focus (first | omega | (simp; omega) | simp))) | ((with_reducible refine Below.setCell ?_ ?_ _); rotate_left; (focus (first | omega | (simp; omega) | simp))) | (refine Below.trans ?_ (Below.mono (by assumption) (by first | omega | (simp; omega) | simp)))))
    · have e := hide (addR_4 hv hl h8)
      have d8 : decide ((8 : Int) ≤ (ls.length : Int)) = false := by simp; omega
      obtain ⟨hQ, hL, hR, hBW, hzW⟩ := HBK.out _ B2.out
      have g0 : w2.cell? ⟨w.heap.size, 0, none⟩ = some (.string nm) := by simp [World.cell?, hQ]
      have g1 : w2.cell? ⟨w.heap.size, 1, none⟩ = some (.int .i64 span) := by simp [World.cell?, hQ]
      have g2 : w2.cell? ⟨w.heap.size, 2, none⟩ = some (.int .i64 wd) := by simp [World.cell?, hQ]
      have g3 : w2.cell? ⟨w.heap.size, 3, none⟩ = some (.int .i64 dp) := by simp [World.cell?, hQ]
      have g4 : w2.cell? ⟨w.heap.size, 4, none⟩ = some (.int .i64 wood) := by simp [World.cell?, hQ]
      have g5 : w2.cell? ⟨w.heap.size, 5, none⟩ = some (.slice (some ⟨ba, oa, none⟩) ls.length c) := by simp [World.cell?, hQ]
      have l0 : w2.cell? ⟨w.heap.size + 1, 0, none⟩ = some (.int .i64 a) := by simp [World.cell?, hL]
      have l1 : w2.cell? ⟨w.heap.size + 1, 1, none⟩ = some (.int .i64 t) := by simp [World.cell?, hL]
      have r0 : w2.cell? ⟨w.heap.size + 2, 0, none⟩ = some (.string ⟨#[]⟩) := by simp [World.cell?, hR]
      have y0 : w2.frozen? ⟨w.heap.size + 2, 0, none⟩ = false := by simp [World.frozen?, hR]
      have r1 : w2.cell? ⟨w.heap.size + 2, 1, none⟩ = some (.int .i64 0) := by simp [World.cell?, hR]
      have y1 : w2.frozen? ⟨w.heap.size + 2, 1, none⟩ = false := by simp [World.frozen?, hR]
      have r2 : w2.cell? ⟨w.heap.size + 2, 2, none⟩ = some (.int .i64 0) := by simp [World.cell?, hR]
      have y2 : w2.frozen? ⟨w.heap.size + 2, 2, none⟩ = false := by simp [World.frozen?, hR]
      have r3 : w2.cell? ⟨w.heap.size + 2, 3, none⟩ = some (.int .i64 0) := by simp [World.cell?, hR]
      have y3 : w2.frozen? ⟨w.heap.size + 2, 3, none⟩ = false := by simp [World.frozen?, hR]
      have r4 : w2.cell? ⟨w.heap.size + 2, 4, none⟩ = some (.int .i64 0) := by simp [World.cell?, hR]
      have y4 : w2.frozen? ⟨w.heap.size + 2, 4, none⟩ = false := by simp [World.frozen?, hR]
      have r5 : w2.cell? ⟨w.heap.size + 2, 5, none⟩ = some (.slice none 0 0) := by simp [World.cell?, hR]
      have y5 : w2.frozen? ⟨w.heap.size + 2, 5, none⟩ = false := by simp [World.frozen?, hR]
      have zq2 : w.heap.size < w2.heap.size := by omega
      have zl2 : w.heap.size + 1 < w2.heap.size := by omega
      have zr2 : w.heap.size + 2 < w2.heap.size := by omega
      clear hQ hL hR
      go_wp2_with fail
      clear g0 g1 g2 g3 g4 g5 l0 l1 r0 r1 r2 r3 r4 r5 y0 y1 y2 y3 y4 y5 hBW hzW
      clear d8
      go_loopw [6] (fun v wr => ∃ k : Nat, v = .int .i64 k ∧ k ≤ ls.length ∧ Hid (∀ j (hj : j < ls.length), j < k → ls[j].at_ ≤ a) ∧ Hid (Below (w.heap.size + 3) W0 wr)) (fun v _ => ls.length - (intOf v).toNat)
      case atStart => exact ⟨0, rfl, by omega, hide (fun j _ h => by omega), B2⟩
      case round =>
        obtain ⟨k, rfl, hk, HJ, HB⟩ := hrel
        obtain ⟨hQ, hL, hR, hBW, hzW⟩ := HBK.out _ HB.out
        have g0 : wr.cell? ⟨w.heap.size, 0, none⟩ = some (.string nm) := by simp [World.cell?, hQ]
        have g1 : wr.cell? ⟨w.heap.size, 1, none⟩ = some (.int .i64 span) := by simp [World.cell?, hQ]
        have g2 : wr.cell? ⟨w.heap.size, 2, none⟩ = some (.int .i64 wd) := by simp [World.cell?, hQ]
        have g3 : wr.cell? ⟨w.heap.size, 3, none⟩ = some (.int .i64 dp) := by simp [World.cell?, hQ]
        have g4 : wr.cell? ⟨w.heap.size, 4, none⟩ = some (.int .i64 wood) := by simp [World.cell?, hQ]
        have g5 : wr.cell? ⟨w.heap.size, 5, none⟩ = some (.slice (some ⟨ba, oa, none⟩) ls.length c) := by simp [World.cell?, hQ]
        have l0 : wr.cell? ⟨w.heap.size + 1, 0, none⟩ = some (.int .i64 a) := by simp [World.cell?, hL]
        have l1 : wr.cell? ⟨w.heap.size + 1, 1, none⟩ = some (.int .i64 t) := by simp [World.cell?, hL]
        have r0 : wr.cell? ⟨w.heap.size + 2, 0, none⟩ = some (.string ⟨#[]⟩) := by simp [World.cell?, hR]
        have y0 : wr.frozen? ⟨w.heap.size + 2, 0, none⟩ = false := by simp [World.frozen?, hR]
        have r1 : wr.cell? ⟨w.heap.size + 2, 1, none⟩ = some (.int .i64 0) := by simp [World.cell?, hR]
        have y1 : wr.frozen? ⟨w.heap.size + 2, 1, none⟩ = false := by simp [World.frozen?, hR]
        have r2 : wr.cell? ⟨w.heap.size + 2, 2, none⟩ = some (.int .i64 0) := by simp [World.cell?, hR]
        have y2 : wr.frozen? ⟨w.heap.size + 2, 2, none⟩ = false := by simp [World.frozen?, hR]
        have r3 : wr.cell? ⟨w.heap.size + 2, 3, none⟩ = some (.int .i64 0) := by simp [World.cell?, hR]
        have y3 : wr.frozen? ⟨w.heap.size + 2, 3, none⟩ = false := by simp [World.frozen?, hR]
        have r4 : wr.cell? ⟨w.heap.size + 2, 4, none⟩ = some (.int .i64 0) := by simp [World.cell?, hR]
        have y4 : wr.frozen? ⟨w.heap.size + 2, 4, none⟩ = false := by simp [World.frozen?, hR]
        have r5 : wr.cell? ⟨w.heap.size + 2, 5, none⟩ = some (.slice none 0 0) := by simp [World.cell?, hR]
        have y5 : wr.frozen? ⟨w.heap.size + 2, 5, none⟩ = false := by simp [World.frozen?, hR]
        have zqr : w.heap.size < wr.heap.size := by omega
        have zlr : w.heap.size + 1 < wr.heap.size := by omega
        have zrr : w.heap.size + 2 < wr.heap.size := by omega
        clear hQ hL hR
        by_cases hlt : k < ls.length
        · obtain ⟨b2, o2, e2, hb2, hc⟩ := HXW.out wr HB.out k hlt
          injection e2 with e2
          injection e2 with e2 e3
          subst e2
          subst e3
          have x0 := hc 0 _ rfl
          simp only [Nat.add_zero] at x0
          clear hc
          have hkl : (k : Int) < (ls.length : Int) := by omega
          by_cases hq : ls[k].at_ ≤ a
          · have dq : decide (ls[k].at_ ≤ a) = true := by simp; omega
            have HJ2 := hide (show ∀ j (hj : j < ls.length), j < k + 1 → ls[j].at_ ≤ a from fun j hj hjk => by
              by_cases ej : j = k
              · subst ej; exact hq
              · exact HJ.out j hj (by omega))
            clear hq
            generalize ls[k].at_ = ak at *
            go_wp2_with fail
            refine wp_region_kept (by kernel_rfl) (by kernel_rfl) ?_
            intro gc gf gz
            repeat (go_big_quiet_step (fail))
            refine wpQuiet_nil ?_
            intro w5 hw'
            obtain ⟨⟨_, hb5⟩, rfl⟩ := hw'
            clear gc gf gz
            try dsimp only
            have fs5 := hb5.size
            try simp at fs5 hb5
            have HB5 := hide (HB.out.trans (hb5.mono (by omega)))
            clear hb5 x0
            clear g0 g1 g2 g3 g4 g5 l0 l1 r0 r1 r2 r3 r4 r5 y0 y1 y2 y3 y4 y5 hBW hzW
            go_wp2_with fail
            go_roundw
            case rel => exact ⟨k + 1, by go_num, by omega, HJ2, HB5⟩
            case measure => simp [intOf]; omega
          · have dq : decide (ls[k].at_ ≤ a) = false := by simp; omega
            have hpo := posL_at (a := a) (k := k) hk HJ.out (fun _ => by omega)
            have HE2 := hide (show addR nm span wd dp wood ls a t = ((nm, span, wd, dp, wood), insL ls k ⟨a, t⟩, 0) from by rw [e.out, hpo])
            clear hpo HJ
            clear hq
            generalize ls[k].at_ = ak at *
            go_wp2_with fail
            refine wp_region_kept (by kernel_rfl) (by kernel_rfl) ?_
            intro gc gf gz
            repeat (go_big_quiet_step (fail))
            refine wpQuiet_nil ?_
            intro w5 hw'
            obtain ⟨⟨_, hb5⟩, rfl⟩ := hw'
            clear gc gf gz
            try dsimp only
            have fs5 := hb5.size
            try simp at fs5 hb5
            clear x0 dq
            have HB5 := hide (HB.out.trans (hb5.mono (by omega)))
            clear hb5
            clear g0 g1 g2 g3 g4 g5 l0 l1 r0 r1 r2 r3 r4 r5 y0 y1 y2 y3 y4 y5 hBW hzW
            obtain ⟨hQ, hL, hR, hBW, hzW⟩ := HBK.out _ HB5.out
            have g0 : w5.cell? ⟨w.heap.size, 0, none⟩ = some (.string nm) := by simp [World.cell?, hQ]
            have g1 : w5.cell? ⟨w.heap.size, 1, none⟩ = some (.int .i64 span) := by simp [World.cell?, hQ]
            have g2 : w5.cell? ⟨w.heap.size, 2, none⟩ = some (.int .i64 wd) := by simp [World.cell?, hQ]
            have g3 : w5.cell? ⟨w.heap.size, 3, none⟩ = some (.int .i64 dp) := by simp [World.cell?, hQ]
            have g4 : w5.cell? ⟨w.heap.size, 4, none⟩ = some (.int .i64 wood) := by simp [World.cell?, hQ]
            have g5 : w5.cell? ⟨w.heap.size, 5, none⟩ = some (.slice (some ⟨ba, oa, none⟩) ls.length c) := by simp [World.cell?, hQ]
            have l0 : w5.cell? ⟨w.heap.size + 1, 0, none⟩ = some (.int .i64 a) := by simp [World.cell?, hL]
            have l1 : w5.cell? ⟨w.heap.size + 1, 1, none⟩ = some (.int .i64 t) := by simp [World.cell?, hL]
            have r0 : w5.cell? ⟨w.heap.size + 2, 0, none⟩ = some (.string ⟨#[]⟩) := by simp [World.cell?, hR]
            have y0 : w5.frozen? ⟨w.heap.size + 2, 0, none⟩ = false := by simp [World.frozen?, hR]
            have r1 : w5.cell? ⟨w.heap.size + 2, 1, none⟩ = some (.int .i64 0) := by simp [World.cell?, hR]
            have y1 : w5.frozen? ⟨w.heap.size + 2, 1, none⟩ = false := by simp [World.frozen?, hR]
            have r2 : w5.cell? ⟨w.heap.size + 2, 2, none⟩ = some (.int .i64 0) := by simp [World.cell?, hR]
            have y2 : w5.frozen? ⟨w.heap.size + 2, 2, none⟩ = false := by simp [World.frozen?, hR]
            have r3 : w5.cell? ⟨w.heap.size + 2, 3, none⟩ = some (.int .i64 0) := by simp [World.cell?, hR]
            have y3 : w5.frozen? ⟨w.heap.size + 2, 3, none⟩ = false := by simp [World.frozen?, hR]
            have r4 : w5.cell? ⟨w.heap.size + 2, 4, none⟩ = some (.int .i64 0) := by simp [World.cell?, hR]
            have y4 : w5.frozen? ⟨w.heap.size + 2, 4, none⟩ = false := by simp [World.frozen?, hR]
            have r5 : w5.cell? ⟨w.heap.size + 2, 5, none⟩ = some (.slice none 0 0) := by simp [World.cell?, hR]
            have y5 : w5.frozen? ⟨w.heap.size + 2, 5, none⟩ = false := by simp [World.frozen?, hR]
            have zq5 : w.heap.size < w5.heap.size := by omega
            have zl5 : w.heap.size + 1 < w5.heap.size := by omega
            have zr5 : w.heap.size + 2 < w5.heap.size := by omega
            clear hQ hL hR
            go_wp2_with fail
            refine (implcopyBeam nm span wd dp wood ba oa c ls _ (HXW.out _ HB5.out) (by omega)).mono ?_
            rintro e6 w6 ⟨A6, c6, rfl, ho6, hb6⟩
            clear g0 g1 g2 g3 g4 g5 l0 l1 r0 r1 r2 r3 r4 r5 y0 y1 y2 y3 y4 y5 hBW hzW
            have B56 := hide hb6
            have B6 := hide (HB5.out.trans (hb6.mono (by have := HB5.out.size; omega)))
            have HO6 := hide ho6
            have hz6 := hb6.size
            have hz5 := HB5.out.size
            clear ho6 hb6
            obtain ⟨hQ6, hL6, hR6, hBW6, hzW6⟩ := HBK.out _ B6.out
            clear hBW6
            have l0 : w6.cell? ⟨w.heap.size + 1, 0, none⟩ = some (.int .i64 a) := by simp [World.cell?, hL6]
            have l1 : w6.cell? ⟨w.heap.size + 1, 1, none⟩ = some (.int .i64 t) := by simp [World.cell?, hL6]
            have hlq : w.heap.size + 1 < w6.heap.size := by omega
            have HB6 := hide (And.intro hQ6 (And.intro hL6 hR6))
            clear hQ6 hL6 hR6
            go_wp2_with fail
            have HO8 := hide (show OwnL ((w6.alloc (.cells #[.string nm, .int .i64 span, .int .i64 wd, .int .i64 dp, .int .i64 wood, .slice A6 ls.length c6] 26)).alloc (.cells #[.int .i64 a, .int .i64 t] 31)) w5.heap.size (.slice A6 ls.length c6) ls from (HO6.out.below ((Below.refl _ _).alloc (Nat.le_refl _) _)).below ((Below.refl _ _).alloc (Nat.le_refl _) _))
            have hz8 : ((w6.alloc (.cells #[.string nm, .int .i64 span, .int .i64 wd, .int .i64 dp, .int .i64 wood, .slice A6 ls.length c6] 26)).alloc (.cells #[.int .i64 a, .int .i64 t] 31)).heap.size = w6.heap.size + 2 := by simp
            have HV8 := hide (show ((w6.alloc (.cells #[.string nm, .int .i64 span, .int .i64 wd, .int .i64 dp, .int .i64 wood, .slice A6 ls.length c6] 26)).alloc (.cells #[.int .i64 a, .int .i64 t] 31)).heap[w6.heap.size + 1]? = some (.cells (encLoad ⟨a, t⟩).toArray 31 (0, 0)) from by have q := heap_alloc_new (w6.alloc (.cells #[.string nm, .int .i64 span, .int .i64 wd, .int .i64 dp, .int .i64 wood, .slice A6 ls.length c6] 26)) (.cells #[.int .i64 a, .int .i64 t] 31); simpa [encLoad] using q)
            have HOB8 := hide (show ((w6.alloc (.cells #[.string nm, .int .i64 span, .int .i64 wd, .int .i64 dp, .int .i64 wood, .slice A6 ls.length c6] 26)).alloc (.cells #[.int .i64 a, .int .i64 t] 31)).heap[w6.heap.size]? = some (.cells #[.string nm, .int .i64 span, .int .i64 wd, .int .i64 dp, .int .i64 wood, .slice A6 ls.length c6] 26 (0, 0)) from (heap_alloc_old _ _ (by simp)).trans (heap_alloc_new w6 _))
            have HR8 := hide (show ((w6.alloc (.cells #[.string nm, .int .i64 span, .int .i64 wd, .int .i64 dp, .int .i64 wood, .slice A6 ls.length c6] 26)).alloc (.cells #[.int .i64 a, .int .i64 t] 31)).heap[w.heap.size + 2]? = some (.cells #[.string ⟨#[]⟩, .int .i64 0, .int .i64 0, .int .i64 0, .int .i64 0, .slice none 0 0] 26 (0, 0)) from (heap_alloc_old _ _ (by simp; omega)).trans ((heap_alloc_old _ _ (by omega)).trans HB6.out.2.2))
            have B8 := hide (show Below w5.heap.size w5 ((w6.alloc (.cells #[.string nm, .int .i64 span, .int .i64 wd, .int .i64 dp, .int .i64 wood, .slice A6 ls.length c6] 26)).alloc (.cells #[.int .i64 a, .int .i64 t] 31)) from (B56.out.alloc hz6 _).alloc (by simp; omega) _)
            have hown6 := fun g (q : (Value.slice A6 ls.length c6).ownBlock = some g) => HO6.out.lt g q
            have HOL := hide hown6
            clear hown6 l0 l1 HO6 HB6
            refine (insertLoad w5.heap.size c6 _ (w6.heap.size + 1) A6 ls ⟨a, t⟩ _ HO8.out (by omega) (by omega) (by omega) HV8.out (fun g q => by have := (HOL.out g q).2; omega)).mono ?_
            rintro e9 w9 ⟨A9, c9, rfl, ho9, hg9, hsz9⟩
            have hOB : w9.heap[w6.heap.size]? = some (.cells #[.string nm, .int .i64 span, .int .i64 wd, .int .i64 dp, .int .i64 wood, .slice A6 ls.length c6] 26 (0, 0)) := (hg9.block _ (by omega) (fun q => by have := (HOL.out _ q.symm).2; omega)).trans HOB8.out
            have hRC : w9.heap[w.heap.size + 2]? = some (.cells #[.string ⟨#[]⟩, .int .i64 0, .int .i64 0, .int .i64 0, .int .i64 0, .slice none 0 0] 26 (0, 0)) := (hg9.block _ (by omega) (fun q => by have := (HOL.out _ q.symm).1; omega)).trans HR8.out
            have B9 := hide (show Below w5.heap.size w5 w9 from Below.grown B8.out hg9 B8.out.size (fun g q => (HOL.out g q).1))
            have g0 : w9.cell? ⟨w6.heap.size, 0, none⟩ = some (.string nm) := by simp [World.cell?, hOB]
            have g1 : w9.cell? ⟨w6.heap.size, 1, none⟩ = some (.int .i64 span) := by simp [World.cell?, hOB]
            have g2 : w9.cell? ⟨w6.heap.size, 2, none⟩ = some (.int .i64 wd) := by simp [World.cell?, hOB]
            have g3 : w9.cell? ⟨w6.heap.size, 3, none⟩ = some (.int .i64 dp) := by simp [World.cell?, hOB]
            have g4 : w9.cell? ⟨w6.heap.size, 4, none⟩ = some (.int .i64 wood) := by simp [World.cell?, hOB]
            have g5 : w9.cell? ⟨w6.heap.size, 5, none⟩ = some (.slice A6 ls.length c6) := by simp [World.cell?, hOB]
            have f5 : w9.frozen? ⟨w6.heap.size, 5, none⟩ = false := by simp [World.frozen?, hOB]
            have r0 : w9.cell? ⟨w.heap.size + 2, 0, none⟩ = some (.string ⟨#[]⟩) := by simp [World.cell?, hRC]
            have y0 : w9.frozen? ⟨w.heap.size + 2, 0, none⟩ = false := by simp [World.frozen?, hRC]
            have r1 : w9.cell? ⟨w.heap.size + 2, 1, none⟩ = some (.int .i64 0) := by simp [World.cell?, hRC]
            have y1 : w9.frozen? ⟨w.heap.size + 2, 1, none⟩ = false := by simp [World.frozen?, hRC]
            have r2 : w9.cell? ⟨w.heap.size + 2, 2, none⟩ = some (.int .i64 0) := by simp [World.cell?, hRC]
            have y2 : w9.frozen? ⟨w.heap.size + 2, 2, none⟩ = false := by simp [World.frozen?, hRC]
            have r3 : w9.cell? ⟨w.heap.size + 2, 3, none⟩ = some (.int .i64 0) := by simp [World.cell?, hRC]
            have y3 : w9.frozen? ⟨w.heap.size + 2, 3, none⟩ = false := by simp [World.frozen?, hRC]
            have r4 : w9.cell? ⟨w.heap.size + 2, 4, none⟩ = some (.int .i64 0) := by simp [World.cell?, hRC]
            have y4 : w9.frozen? ⟨w.heap.size + 2, 4, none⟩ = false := by simp [World.frozen?, hRC]
            have r5 : w9.cell? ⟨w.heap.size + 2, 5, none⟩ = some (.slice none 0 0) := by simp [World.cell?, hRC]
            have y5 : w9.frozen? ⟨w.heap.size + 2, 5, none⟩ = false := by simp [World.frozen?, hRC]
            have HO9 := hide ho9
            have HT9 := hide hOB
            have BW9 := hide (show Below w.heap.size w w9 from ((HBK.out _ HB5.out).2.2.2.1).trans (B9.out.mono (by omega)))
            have hq1 : w.heap.size + 2 < w6.heap.size := by omega
            have hq2 : w6.heap.size < w9.heap.size := by omega
            clear hOB hRC ho9 hg9
            go_wp2_with fail
            refine bodyPost_ret (v := .tuple #[.agg #[.string nm, .int .i64 span, .int .i64 wd, .int .i64 dp, .int .i64 wood, .slice A9 (ls.length + 1) c9], .int .i64 0]) (by simp [results, Tryz.results13, go_sem, r0, r1, r2, r3, r4, r5]) rfl ?_
            refine ⟨nm, span, wd, dp, wood, A9, c9, insL ls k ⟨a, t⟩, 0, by rw [insL_len (by omega)], HE2.out, hs, by rw [insL_len (by omega)]; omega, ?_, ?_⟩
            · rw [insL_len (by omega)]
              refine Own.mono (B := w5.heap.size) ?_ (by omega)
              repeat (first | with_reducible refine own_setOut ?_ (by omega) | with_reducible exact own_setType HO9.out HT9.out (by decide))
            · have hb := BW9.out
              exact (by repeat (first | with_reducible exact Below.refl _ _ | with_reducible assumption | (with_reducible refine Below.drew ?_) | (with_reducible refine below_drewN ?_ _) | ((with_reducible refine Below.alloc ?_ ?_ _); rotate_left; (focus (first | omega | (simp; omega) | simp))) | ((with_reducible refine Below.setCell ?_ ?_ _); rotate_left; (focus (first | omega | (simp; omega) | simp))) | (refine Below.trans ?_ (Below.mono (by assumption) (by first | omega | (simp; omega) | simp)))))
        · obtain rfl : k = ls.length := by omega
          have hpo := posL_at (a := a) (k := ls.length) hk HJ.out (fun h => by omega)
          have HE2 := hide (show addR nm span wd dp wood ls a t = ((nm, span, wd, dp, wood), insL ls ls.length ⟨a, t⟩, 0) from by rw [e.out, hpo])
          clear hpo HJ
          go_wp2_with fail
          refine wp_region_kept (by kernel_rfl) (by kernel_rfl) ?_
          intro gc gf gz
          repeat (go_big_quiet_step (fail))
          refine wpQuiet_nil ?_
          intro w5 hw'
          obtain ⟨⟨_, hb5⟩, rfl⟩ := hw'
          clear gc gf gz
          try dsimp only
          have fs5 := hb5.size
          try simp at fs5 hb5
          have HB5 := hide (HB.out.trans (hb5.mono (by omega)))
          clear hb5
          clear g0 g1 g2 g3 g4 g5 l0 l1 r0 r1 r2 r3 r4 r5 y0 y1 y2 y3 y4 y5 hBW hzW
          obtain ⟨hQ, hL, hR, hBW, hzW⟩ := HBK.out _ HB5.out
          have g0 : w5.cell? ⟨w.heap.size, 0, none⟩ = some (.string nm) := by simp [World.cell?, hQ]
          have g1 : w5.cell? ⟨w.heap.size, 1, none⟩ = some (.int .i64 span) := by simp [World.cell?, hQ]
          have g2 : w5.cell? ⟨w.heap.size, 2, none⟩ = some (.int .i64 wd) := by simp [World.cell?, hQ]
          have g3 : w5.cell? ⟨w.heap.size, 3, none⟩ = some (.int .i64 dp) := by simp [World.cell?, hQ]
          have g4 : w5.cell? ⟨w.heap.size, 4, none⟩ = some (.int .i64 wood) := by simp [World.cell?, hQ]
          have g5 : w5.cell? ⟨w.heap.size, 5, none⟩ = some (.slice (some ⟨ba, oa, none⟩) ls.length c) := by simp [World.cell?, hQ]
          have l0 : w5.cell? ⟨w.heap.size + 1, 0, none⟩ = some (.int .i64 a) := by simp [World.cell?, hL]
          have l1 : w5.cell? ⟨w.heap.size + 1, 1, none⟩ = some (.int .i64 t) := by simp [World.cell?, hL]
          have r0 : w5.cell? ⟨w.heap.size + 2, 0, none⟩ = some (.string ⟨#[]⟩) := by simp [World.cell?, hR]
          have y0 : w5.frozen? ⟨w.heap.size + 2, 0, none⟩ = false := by simp [World.frozen?, hR]
          have r1 : w5.cell? ⟨w.heap.size + 2, 1, none⟩ = some (.int .i64 0) := by simp [World.cell?, hR]
          have y1 : w5.frozen? ⟨w.heap.size + 2, 1, none⟩ = false := by simp [World.frozen?, hR]
          have r2 : w5.cell? ⟨w.heap.size + 2, 2, none⟩ = some (.int .i64 0) := by simp [World.cell?, hR]
          have y2 : w5.frozen? ⟨w.heap.size + 2, 2, none⟩ = false := by simp [World.frozen?, hR]
          have r3 : w5.cell? ⟨w.heap.size + 2, 3, none⟩ = some (.int .i64 0) := by simp [World.cell?, hR]
          have y3 : w5.frozen? ⟨w.heap.size + 2, 3, none⟩ = false := by simp [World.frozen?, hR]
          have r4 : w5.cell? ⟨w.heap.size + 2, 4, none⟩ = some (.int .i64 0) := by simp [World.cell?, hR]
          have y4 : w5.frozen? ⟨w.heap.size + 2, 4, none⟩ = false := by simp [World.frozen?, hR]
          have r5 : w5.cell? ⟨w.heap.size + 2, 5, none⟩ = some (.slice none 0 0) := by simp [World.cell?, hR]
          have y5 : w5.frozen? ⟨w.heap.size + 2, 5, none⟩ = false := by simp [World.frozen?, hR]
          have zq5 : w.heap.size < w5.heap.size := by omega
          have zl5 : w.heap.size + 1 < w5.heap.size := by omega
          have zr5 : w.heap.size + 2 < w5.heap.size := by omega
          clear hQ hL hR
          go_wp2_with fail
          refine (implcopyBeam nm span wd dp wood ba oa c ls _ (HXW.out _ HB5.out) (by omega)).mono ?_
          rintro e6 w6 ⟨A6, c6, rfl, ho6, hb6⟩
          clear g0 g1 g2 g3 g4 g5 l0 l1 r0 r1 r2 r3 r4 r5 y0 y1 y2 y3 y4 y5 hBW hzW
          have B56 := hide hb6
          have B6 := hide (HB5.out.trans (hb6.mono (by have := HB5.out.size; omega)))
          have HO6 := hide ho6
          have hz6 := hb6.size
          have hz5 := HB5.out.size
          clear ho6 hb6
          obtain ⟨hQ6, hL6, hR6, hBW6, hzW6⟩ := HBK.out _ B6.out
          clear hBW6
          have l0 : w6.cell? ⟨w.heap.size + 1, 0, none⟩ = some (.int .i64 a) := by simp [World.cell?, hL6]
          have l1 : w6.cell? ⟨w.heap.size + 1, 1, none⟩ = some (.int .i64 t) := by simp [World.cell?, hL6]
          have hlq : w.heap.size + 1 < w6.heap.size := by omega
          have HB6 := hide (And.intro hQ6 (And.intro hL6 hR6))
          clear hQ6 hL6 hR6
          go_wp2_with fail
          have HO8 := hide (show OwnL ((w6.alloc (.cells #[.string nm, .int .i64 span, .int .i64 wd, .int .i64 dp, .int .i64 wood, .slice A6 ls.length c6] 26)).alloc (.cells #[.int .i64 a, .int .i64 t] 31)) w5.heap.size (.slice A6 ls.length c6) ls from (HO6.out.below ((Below.refl _ _).alloc (Nat.le_refl _) _)).below ((Below.refl _ _).alloc (Nat.le_refl _) _))
          have hz8 : ((w6.alloc (.cells #[.string nm, .int .i64 span, .int .i64 wd, .int .i64 dp, .int .i64 wood, .slice A6 ls.length c6] 26)).alloc (.cells #[.int .i64 a, .int .i64 t] 31)).heap.size = w6.heap.size + 2 := by simp
          have HV8 := hide (show ((w6.alloc (.cells #[.string nm, .int .i64 span, .int .i64 wd, .int .i64 dp, .int .i64 wood, .slice A6 ls.length c6] 26)).alloc (.cells #[.int .i64 a, .int .i64 t] 31)).heap[w6.heap.size + 1]? = some (.cells (encLoad ⟨a, t⟩).toArray 31 (0, 0)) from by have q := heap_alloc_new (w6.alloc (.cells #[.string nm, .int .i64 span, .int .i64 wd, .int .i64 dp, .int .i64 wood, .slice A6 ls.length c6] 26)) (.cells #[.int .i64 a, .int .i64 t] 31); simpa [encLoad] using q)
          have HOB8 := hide (show ((w6.alloc (.cells #[.string nm, .int .i64 span, .int .i64 wd, .int .i64 dp, .int .i64 wood, .slice A6 ls.length c6] 26)).alloc (.cells #[.int .i64 a, .int .i64 t] 31)).heap[w6.heap.size]? = some (.cells #[.string nm, .int .i64 span, .int .i64 wd, .int .i64 dp, .int .i64 wood, .slice A6 ls.length c6] 26 (0, 0)) from (heap_alloc_old _ _ (by simp)).trans (heap_alloc_new w6 _))
          have HR8 := hide (show ((w6.alloc (.cells #[.string nm, .int .i64 span, .int .i64 wd, .int .i64 dp, .int .i64 wood, .slice A6 ls.length c6] 26)).alloc (.cells #[.int .i64 a, .int .i64 t] 31)).heap[w.heap.size + 2]? = some (.cells #[.string ⟨#[]⟩, .int .i64 0, .int .i64 0, .int .i64 0, .int .i64 0, .slice none 0 0] 26 (0, 0)) from (heap_alloc_old _ _ (by simp; omega)).trans ((heap_alloc_old _ _ (by omega)).trans HB6.out.2.2))
          have B8 := hide (show Below w5.heap.size w5 ((w6.alloc (.cells #[.string nm, .int .i64 span, .int .i64 wd, .int .i64 dp, .int .i64 wood, .slice A6 ls.length c6] 26)).alloc (.cells #[.int .i64 a, .int .i64 t] 31)) from (B56.out.alloc hz6 _).alloc (by simp; omega) _)
          have hown6 := fun g (q : (Value.slice A6 ls.length c6).ownBlock = some g) => HO6.out.lt g q
          have HOL := hide hown6
          clear hown6 l0 l1 HO6 HB6
          refine (insertLoad w5.heap.size c6 _ (w6.heap.size + 1) A6 ls ⟨a, t⟩ _ HO8.out (by omega) (by omega) (by omega) HV8.out (fun g q => by have := (HOL.out g q).2; omega)).mono ?_
          rintro e9 w9 ⟨A9, c9, rfl, ho9, hg9, hsz9⟩
          have hOB : w9.heap[w6.heap.size]? = some (.cells #[.string nm, .int .i64 span, .int .i64 wd, .int .i64 dp, .int .i64 wood, .slice A6 ls.length c6] 26 (0, 0)) := (hg9.block _ (by omega) (fun q => by have := (HOL.out _ q.symm).2; omega)).trans HOB8.out
          have hRC : w9.heap[w.heap.size + 2]? = some (.cells #[.string ⟨#[]⟩, .int .i64 0, .int .i64 0, .int .i64 0, .int .i64 0, .slice none 0 0] 26 (0, 0)) := (hg9.block _ (by omega) (fun q => by have := (HOL.out _ q.symm).1; omega)).trans HR8.out
          have B9 := hide (show Below w5.heap.size w5 w9 from Below.grown B8.out hg9 B8.out.size (fun g q => (HOL.out g q).1))
          have g0 : w9.cell? ⟨w6.heap.size, 0, none⟩ = some (.string nm) := by simp [World.cell?, hOB]
          have g1 : w9.cell? ⟨w6.heap.size, 1, none⟩ = some (.int .i64 span) := by simp [World.cell?, hOB]
          have g2 : w9.cell? ⟨w6.heap.size, 2, none⟩ = some (.int .i64 wd) := by simp [World.cell?, hOB]
          have g3 : w9.cell? ⟨w6.heap.size, 3, none⟩ = some (.int .i64 dp) := by simp [World.cell?, hOB]
          have g4 : w9.cell? ⟨w6.heap.size, 4, none⟩ = some (.int .i64 wood) := by simp [World.cell?, hOB]
          have g5 : w9.cell? ⟨w6.heap.size, 5, none⟩ = some (.slice A6 ls.length c6) := by simp [World.cell?, hOB]
          have f5 : w9.frozen? ⟨w6.heap.size, 5, none⟩ = false := by simp [World.frozen?, hOB]
          have r0 : w9.cell? ⟨w.heap.size + 2, 0, none⟩ = some (.string ⟨#[]⟩) := by simp [World.cell?, hRC]
          have y0 : w9.frozen? ⟨w.heap.size + 2, 0, none⟩ = false := by simp [World.frozen?, hRC]
          have r1 : w9.cell? ⟨w.heap.size + 2, 1, none⟩ = some (.int .i64 0) := by simp [World.cell?, hRC]
          have y1 : w9.frozen? ⟨w.heap.size + 2, 1, none⟩ = false := by simp [World.frozen?, hRC]
          have r2 : w9.cell? ⟨w.heap.size + 2, 2, none⟩ = some (.int .i64 0) := by simp [World.cell?, hRC]
          have y2 : w9.frozen? ⟨w.heap.size + 2, 2, none⟩ = false := by simp [World.frozen?, hRC]
          have r3 : w9.cell? ⟨w.heap.size + 2, 3, none⟩ = some (.int .i64 0) := by simp [World.cell?, hRC]
          have y3 : w9.frozen? ⟨w.heap.size + 2, 3, none⟩ = false := by simp [World.frozen?, hRC]
          have r4 : w9.cell? ⟨w.heap.size + 2, 4, none⟩ = some (.int .i64 0) := by simp [World.cell?, hRC]
          have y4 : w9.frozen? ⟨w.heap.size + 2, 4, none⟩ = false := by simp [World.frozen?, hRC]
          have r5 : w9.cell? ⟨w.heap.size + 2, 5, none⟩ = some (.slice none 0 0) := by simp [World.cell?, hRC]
          have y5 : w9.frozen? ⟨w.heap.size + 2, 5, none⟩ = false := by simp [World.frozen?, hRC]
          have HO9 := hide ho9
          have HT9 := hide hOB
          have BW9 := hide (show Below w.heap.size w w9 from ((HBK.out _ HB5.out).2.2.2.1).trans (B9.out.mono (by omega)))
          have hq1 : w.heap.size + 2 < w6.heap.size := by omega
          have hq2 : w6.heap.size < w9.heap.size := by omega
          clear hOB hRC ho9 hg9
          go_wp2_with fail
          refine bodyPost_ret (v := .tuple #[.agg #[.string nm, .int .i64 span, .int .i64 wd, .int .i64 dp, .int .i64 wood, .slice A9 (ls.length + 1) c9], .int .i64 0]) (by simp [results, Tryz.results13, go_sem, r0, r1, r2, r3, r4, r5]) rfl ?_
          refine ⟨nm, span, wd, dp, wood, A9, c9, insL ls ls.length ⟨a, t⟩, 0, by rw [insL_len (by omega)], HE2.out, hs, by rw [insL_len (by omega)]; omega, ?_, ?_⟩
          · rw [insL_len (by omega)]
            refine Own.mono (B := w5.heap.size) ?_ (by omega)
            repeat (first | with_reducible refine own_setOut ?_ (by omega) | with_reducible exact own_setType HO9.out HT9.out (by decide))
          · have hb := BW9.out
            exact (by repeat (first | with_reducible exact Below.refl _ _ | with_reducible assumption | (with_reducible refine Below.drew ?_) | (with_reducible refine below_drewN ?_ _) | ((with_reducible refine Below.alloc ?_ ?_ _); rotate_left; (focus (first | omega | (simp; omega) | simp))) | ((with_reducible refine Below.setCell ?_ ?_ _); rotate_left; (focus (first | omega | (simp; omega) | simp))) | (refine Below.trans ?_ (Below.mono (by assumption) (by first | omega | (simp; omega) | simp)))))
end Go.Proofs.YtajodbhbmfjmjaaGreatDoor
namespace Go.Proofs.YtajodbhbmfjmjaaGreatDoor
open Go.RowKit

/-- A copy of a row of loads can be made. -/
def CloneOK (A : Option Addr) (c : Nat) (ls : List LoadR) : Prop := ∀ w : World, SlAt encLoad 2 w A ls → Calls Tryz.prog 56 #[.slice A ls.length c] w fun e w' => ∃ (A' : Option Addr) (c' : Nat), e = .returned (.slice A' ls.length c') ∧ OwnL w' w.heap.size (.slice A' ls.length c') ls ∧ Below w.heap.size w w'
theorem clone_some (ba oa c : Nat) (ls : List LoadR) (hn : ls.length ≤ 100000) : CloneOK (some ⟨ba, oa, none⟩) c ls := fun w h => cloneLoad ba oa c ls w h hn
theorem clone_none (c : Nat) : CloneOK none c [] := fun w _ => by
  have q22 : ∀ (w : World) (a : Option Addr) (n c n' c' : Nat), (binOp .eql 24 (.slice a n c) (.slice none n' c')).run Tryz.prog w = .ok (.bool a.isNone) w := fun w a n c n' c' => Lib.run_eql_slice_nil w _ _ a n c n' c' Tryz.underlying24
  go_enter Tryz.func56, Tryz.ntmps56
  go_wp2_with fail
  go_ret
  exact ⟨none, 0, rfl, Own.nil, Below.refl _ _⟩
set_option maxRecDepth 100000 in
theorem copyBeamG (nm : ByteArray) (x1 x2 x3 x4 : Int) (A : Option Addr) (c : Nat) (ls : List LoadR) (w : World) (h : SlAt encLoad 2 w A ls) (hcl : CloneOK A c ls) :
    Calls Tryz.prog 34 #[.agg #[.string nm, .int .i64 x1, .int .i64 x2, .int .i64 x3, .int .i64 x4, .slice A ls.length c]] w fun e w' => ∃ (A : Option Addr) (c' : Nat), e = .returned (.agg #[.string nm, .int .i64 x1, .int .i64 x2, .int .i64 x3, .int .i64 x4, .slice A ls.length c']) ∧ OwnL w' w.heap.size (.slice A ls.length c') ls ∧ Below w.heap.size w w' := by
  have H := hide (h.below (w' := (w.alloc (.cells #[.string nm, .int .i64 x1, .int .i64 x2, .int .i64 x3, .int .i64 x4, .slice A ls.length c] 26)).alloc (.cells #[.string ⟨#[]⟩, .int .i64 0, .int .i64 0, .int .i64 0, .int .i64 0, .slice none 0 0] 26)) (by repeat (first | with_reducible exact Below.refl _ _ | with_reducible assumption | (with_reducible refine Below.drew ?_) | (with_reducible refine below_drewN ?_ _) | ((with_reducible refine Below.alloc ?_ ?_ _); rotate_left; (focus (first | omega | (simp; omega) | simp))) | ((with_reducible refine Below.setCell ?_ ?_ _); rotate_left; (focus (first | omega | (simp; omega) | simp))) | (refine Below.trans ?_ (Below.mono (by assumption) (by first | omega | (simp; omega) | simp))))))
  have HCL := hide hcl
  clear h hcl
  go_enter Tryz.func34, Tryz.ntmps34
  go_wp2_with fail
  refine (HCL.out _ H.out).mono ?_
  rintro e w1 ⟨A1, c1, rfl, ho1, hb1⟩
  have hQ : w1.heap[w.heap.size]? = some (.cells #[.string nm, .int .i64 x1, .int .i64 x2, .int .i64 x3, .int .i64 x4, .slice A ls.length c] 26 (0, 0)) := (hb1.block w.heap.size (by simp; omega)).trans ((heap_alloc_old _ _ (by simp)).trans (heap_alloc_new w _))
  have hR : w1.heap[w.heap.size + 1]? = some (.cells #[.string ⟨#[]⟩, .int .i64 0, .int .i64 0, .int .i64 0, .int .i64 0, .slice none 0 0] 26 (0, 0)) := (hb1.block (w.heap.size + 1) (by simp)).trans (by simpa using heap_alloc_new (w.alloc (.cells #[.string nm, .int .i64 x1, .int .i64 x2, .int .i64 x3, .int .i64 x4, .slice A ls.length c] 26)) (.cells #[.string ⟨#[]⟩, .int .i64 0, .int .i64 0, .int .i64 0, .int .i64 0, .slice none 0 0] 26))
  have HB1 := hide (show Below w.heap.size w w1 from (show Below w.heap.size w _ from (by repeat (first | with_reducible exact Below.refl _ _ | with_reducible assumption | (with_reducible refine Below.drew ?_) | (with_reducible refine below_drewN ?_ _) | ((with_reducible refine Below.alloc ?_ ?_ _); rotate_left; (focus (first | omega | (simp; omega) | simp))) | ((with_reducible refine Below.setCell ?_ ?_ _); rotate_left; (focus (first | omega | (simp; omega) | simp))) | (refine Below.trans ?_ (Below.mono (by assumption) (by first | omega | (simp; omega) | simp)))))).trans (hb1.mono (by simp; omega)))
  have hz1 : w.heap.size + 2 ≤ w1.heap.size := by have := hb1.size; simp at this; omega
  have HO1 := hide (show OwnL w1 (w.heap.size + 2) (.slice A1 ls.length c1) ls from ho1.mono (by simp))
  have g0 : w1.cell? ⟨w.heap.size, 0, none⟩ = some (.string nm) := by simp [World.cell?, hQ]
  have g1 : w1.cell? ⟨w.heap.size, 1, none⟩ = some (.int .i64 x1) := by simp [World.cell?, hQ]
  have g2 : w1.cell? ⟨w.heap.size, 2, none⟩ = some (.int .i64 x2) := by simp [World.cell?, hQ]
  have g3 : w1.cell? ⟨w.heap.size, 3, none⟩ = some (.int .i64 x3) := by simp [World.cell?, hQ]
  have g4 : w1.cell? ⟨w.heap.size, 4, none⟩ = some (.int .i64 x4) := by simp [World.cell?, hQ]
  have g5 : w1.cell? ⟨w.heap.size, 5, none⟩ = some (.slice A ls.length c) := by simp [World.cell?, hQ]
  have f5 : w1.frozen? ⟨w.heap.size, 5, none⟩ = false := by simp [World.frozen?, hQ]
  have r0 : w1.cell? ⟨w.heap.size + 1, 0, none⟩ = some (.string ⟨#[]⟩) := by simp [World.cell?, hR]
  have r1 : w1.cell? ⟨w.heap.size + 1, 1, none⟩ = some (.int .i64 0) := by simp [World.cell?, hR]
  have r2 : w1.cell? ⟨w.heap.size + 1, 2, none⟩ = some (.int .i64 0) := by simp [World.cell?, hR]
  have r3 : w1.cell? ⟨w.heap.size + 1, 3, none⟩ = some (.int .i64 0) := by simp [World.cell?, hR]
  have r4 : w1.cell? ⟨w.heap.size + 1, 4, none⟩ = some (.int .i64 0) := by simp [World.cell?, hR]
  have r5 : w1.cell? ⟨w.heap.size + 1, 5, none⟩ = some (.slice none 0 0) := by simp [World.cell?, hR]
  have z0 : ∀ j, w1.frozen? ⟨w.heap.size + 1, j, none⟩ = false := fun j => by simp [World.frozen?, hR]
  have y0 := z0 0
  have y1 := z0 1
  have y2 := z0 2
  have y3 := z0 3
  have y4 := z0 4
  have y5 := z0 5
  clear hQ hR ho1 hb1 H z0
  go_wp2_with fail
  refine bodyPost_ret (v := .agg #[.string nm, .int .i64 x1, .int .i64 x2, .int .i64 x3, .int .i64 x4, .slice A1 ls.length c1]) (by simp [results, Tryz.results34, go_sem, r0, r1, r2, r3, r4, r5]) rfl ⟨A1, c1, rfl, ?_, ?_⟩
  · refine Own.mono (B := w.heap.size + 2) ?_ (by omega)
    repeat (first | with_reducible exact HO1.out | with_reducible refine own_setOut ?_ (by omega))
  · have hb := HB1.out
    exact (by repeat (first | with_reducible exact Below.refl _ _ | with_reducible assumption | (with_reducible refine Below.drew ?_) | (with_reducible refine below_drewN ?_ _) | ((with_reducible refine Below.alloc ?_ ?_ _); rotate_left; (focus (first | omega | (simp; omega) | simp))) | ((with_reducible refine Below.setCell ?_ ?_ _); rotate_left; (focus (first | omega | (simp; omega) | simp))) | (refine Below.trans ?_ (Below.mono (by assumption) (by first | omega | (simp; omega) | simp)))))
set_option maxRecDepth 100000 in
set_option maxHeartbeats 4000000 in
theorem addLoadG (nm : ByteArray) (span wd dp wood : Int) (A : Option Addr) (c : Nat) (ls : List LoadR) (a t : Int) (w : World) (h : SlAt encLoad 2 w A ls) (hcl : CloneOK A c ls) (hn : ls.length ≤ 1048576) (hs : nm.size ≤ maxLen) :
    Calls Tryz.prog 13 #[.agg #[.string nm, .int .i64 span, .int .i64 wd, .int .i64 dp, .int .i64 wood, .slice A ls.length c], .agg #[.int .i64 a, .int .i64 t]] w (BmRes (fun r => addR nm span wd dp wood ls a t = r) w) := by
  have HX := hide h
  have HCL := hide hcl
  clear h hcl
  have HBK := hide (fun (W : World) (h : Below (w.heap.size + 3) (((w.alloc (.cells #[.string nm, .int .i64 span, .int .i64 wd, .int .i64 dp, .int .i64 wood, .slice A ls.length c] 26)).alloc (.cells #[.int .i64 a, .int .i64 t] 31)).alloc (.cells #[.string ⟨#[]⟩, .int .i64 0, .int .i64 0, .int .i64 0, .int .i64 0, .slice none 0 0] 26)) W) => (show W.heap[w.heap.size]? = some (.cells #[.string nm, .int .i64 span, .int .i64 wd, .int .i64 dp, .int .i64 wood, .slice A ls.length c] 26 (0, 0)) ∧ W.heap[w.heap.size + 1]? = some (.cells #[.int .i64 a, .int .i64 t] 31 (0, 0)) ∧ W.heap[w.heap.size + 2]? = some (.cells #[.string ⟨#[]⟩, .int .i64 0, .int .i64 0, .int .i64 0, .int .i64 0, .slice none 0 0] 26 (0, 0)) ∧ Below w.heap.size w W ∧ w.heap.size + 3 ≤ W.heap.size from by
    have z1 : (w.alloc (.cells #[.string nm, .int .i64 span, .int .i64 wd, .int .i64 dp, .int .i64 wood, .slice A ls.length c] 26)).heap.size = w.heap.size + 1 := by simp
    have z2 : ((w.alloc (.cells #[.string nm, .int .i64 span, .int .i64 wd, .int .i64 dp, .int .i64 wood, .slice A ls.length c] 26)).alloc (.cells #[.int .i64 a, .int .i64 t] 31)).heap.size = w.heap.size + 2 := by simp
    have z3 : (((w.alloc (.cells #[.string nm, .int .i64 span, .int .i64 wd, .int .i64 dp, .int .i64 wood, .slice A ls.length c] 26)).alloc (.cells #[.int .i64 a, .int .i64 t] 31)).alloc (.cells #[.string ⟨#[]⟩, .int .i64 0, .int .i64 0, .int .i64 0, .int .i64 0, .slice none 0 0] 26)).heap.size = w.heap.size + 3 := by simp
    refine ⟨(h.block _ (by omega)).trans ((heap_alloc_old _ _ (by omega)).trans ((heap_alloc_old _ _ (by omega)).trans (heap_alloc_new w _))), (h.block _ (by omega)).trans ((heap_alloc_old _ _ (by omega)).trans ?_), (h.block _ (by omega)).trans ?_, (show Below w.heap.size w (((w.alloc (.cells #[.string nm, .int .i64 span, .int .i64 wd, .int .i64 dp, .int .i64 wood, .slice A ls.length c] 26)).alloc (.cells #[.int .i64 a, .int .i64 t] 31)).alloc (.cells #[.string ⟨#[]⟩, .int .i64 0, .int .i64 0, .int .i64 0, .int .i64 0, .slice none 0 0] 26)) from (by repeat (first | with_reducible exact Below.refl _ _ | with_reducible assumption | (with_reducible refine Below.drew ?_) | (with_reducible refine below_drewN ?_ _) | ((with_reducible refine Below.alloc ?_ ?_ _); rotate_left; (focus (first | omega | (simp; omega) | simp))) | ((with_reducible refine Below.setCell ?_ ?_ _); rotate_left; (focus (first | omega | (simp; omega) | simp))) | (refine Below.trans ?_ (Below.mono (by assumption) (by first | omega | (simp; omega) | simp)))))).trans (h.mono (by omega)), by have := h.size; omega⟩
    · have q := heap_alloc_new (w.alloc (.cells #[.string nm, .int .i64 span, .int .i64 wd, .int .i64 dp, .int .i64 wood, .slice A ls.length c] 26)) (.cells #[.int .i64 a, .int .i64 t] 31)
      rw [z1] at q
      exact q
    · have q := heap_alloc_new ((w.alloc (.cells #[.string nm, .int .i64 span, .int .i64 wd, .int .i64 dp, .int .i64 wood, .slice A ls.length c] 26)).alloc (.cells #[.int .i64 a, .int .i64 t] 31)) (.cells #[.string ⟨#[]⟩, .int .i64 0, .int .i64 0, .int .i64 0, .int .i64 0, .slice none 0 0] 26)
      rw [z2] at q
      exact q))
  have HXW := hide (fun (W : World) (h : Below (w.heap.size + 3) (((w.alloc (.cells #[.string nm, .int .i64 span, .int .i64 wd, .int .i64 dp, .int .i64 wood, .slice A ls.length c] 26)).alloc (.cells #[.int .i64 a, .int .i64 t] 31)).alloc (.cells #[.string ⟨#[]⟩, .int .i64 0, .int .i64 0, .int .i64 0, .int .i64 0, .slice none 0 0] 26)) W) => (show SlAt encLoad 2 W A ls from HX.out.below ((HBK.out W h).2.2.2.1)))
  have B0 := hide (show Below (w.heap.size + 3) (((w.alloc (.cells #[.string nm, .int .i64 span, .int .i64 wd, .int .i64 dp, .int .i64 wood, .slice A ls.length c] 26)).alloc (.cells #[.int .i64 a, .int .i64 t] 31)).alloc (.cells #[.string ⟨#[]⟩, .int .i64 0, .int .i64 0, .int .i64 0, .int .i64 0, .slice none 0 0] 26)) (((w.alloc (.cells #[.string nm, .int .i64 span, .int .i64 wd, .int .i64 dp, .int .i64 wood, .slice A ls.length c] 26)).alloc (.cells #[.int .i64 a, .int .i64 t] 31)).alloc (.cells #[.string ⟨#[]⟩, .int .i64 0, .int .i64 0, .int .i64 0, .int .i64 0, .slice none 0 0] 26)) from Below.refl _ _)
  have z0 : (((w.alloc (.cells #[.string nm, .int .i64 span, .int .i64 wd, .int .i64 dp, .int .i64 wood, .slice A ls.length c] 26)).alloc (.cells #[.int .i64 a, .int .i64 t] 31)).alloc (.cells #[.string ⟨#[]⟩, .int .i64 0, .int .i64 0, .int .i64 0, .int .i64 0, .slice none 0 0] 26)).heap.size = w.heap.size + 3 := by simp
  go_enter Tryz.func13, Tryz.ntmps13
  go_wp2_with fail
  refine (implValidBeam nm span wd dp wood A c ls _ (HXW.out _ B0.out) hn hs).mono ?_
  rintro e w1 ⟨rfl, hb1⟩
  have B1 := hide (show Below (w.heap.size + 3) (((w.alloc (.cells #[.string nm, .int .i64 span, .int .i64 wd, .int .i64 dp, .int .i64 wood, .slice A ls.length c] 26)).alloc (.cells #[.int .i64 a, .int .i64 t] 31)).alloc (.cells #[.string ⟨#[]⟩, .int .i64 0, .int .i64 0, .int .i64 0, .int .i64 0, .slice none 0 0] 26)) w1 from hb1.mono (by omega))
  clear hb1
  cases hv : vBeam nm span wd dp wood ls
  · have e := hide (addR_1 (a := a) (t := t) hv)
    obtain ⟨hQ, hL, hR, hBW, hzW⟩ := HBK.out _ B1.out
    have g0 : w1.cell? ⟨w.heap.size, 0, none⟩ = some (.string nm) := by simp [World.cell?, hQ]
    have g1 : w1.cell? ⟨w.heap.size, 1, none⟩ = some (.int .i64 span) := by simp [World.cell?, hQ]
    have g2 : w1.cell? ⟨w.heap.size, 2, none⟩ = some (.int .i64 wd) := by simp [World.cell?, hQ]
    have g3 : w1.cell? ⟨w.heap.size, 3, none⟩ = some (.int .i64 dp) := by simp [World.cell?, hQ]
    have g4 : w1.cell? ⟨w.heap.size, 4, none⟩ = some (.int .i64 wood) := by simp [World.cell?, hQ]
    have g5 : w1.cell? ⟨w.heap.size, 5, none⟩ = some (.slice A ls.length c) := by simp [World.cell?, hQ]
    have l0 : w1.cell? ⟨w.heap.size + 1, 0, none⟩ = some (.int .i64 a) := by simp [World.cell?, hL]
    have l1 : w1.cell? ⟨w.heap.size + 1, 1, none⟩ = some (.int .i64 t) := by simp [World.cell?, hL]
    have r0 : w1.cell? ⟨w.heap.size + 2, 0, none⟩ = some (.string ⟨#[]⟩) := by simp [World.cell?, hR]
    have y0 : w1.frozen? ⟨w.heap.size + 2, 0, none⟩ = false := by simp [World.frozen?, hR]
    have r1 : w1.cell? ⟨w.heap.size + 2, 1, none⟩ = some (.int .i64 0) := by simp [World.cell?, hR]
    have y1 : w1.frozen? ⟨w.heap.size + 2, 1, none⟩ = false := by simp [World.frozen?, hR]
    have r2 : w1.cell? ⟨w.heap.size + 2, 2, none⟩ = some (.int .i64 0) := by simp [World.cell?, hR]
    have y2 : w1.frozen? ⟨w.heap.size + 2, 2, none⟩ = false := by simp [World.frozen?, hR]
    have r3 : w1.cell? ⟨w.heap.size + 2, 3, none⟩ = some (.int .i64 0) := by simp [World.cell?, hR]
    have y3 : w1.frozen? ⟨w.heap.size + 2, 3, none⟩ = false := by simp [World.frozen?, hR]
    have r4 : w1.cell? ⟨w.heap.size + 2, 4, none⟩ = some (.int .i64 0) := by simp [World.cell?, hR]
    have y4 : w1.frozen? ⟨w.heap.size + 2, 4, none⟩ = false := by simp [World.frozen?, hR]
    have r5 : w1.cell? ⟨w.heap.size + 2, 5, none⟩ = some (.slice none 0 0) := by simp [World.cell?, hR]
    have y5 : w1.frozen? ⟨w.heap.size + 2, 5, none⟩ = false := by simp [World.frozen?, hR]
    have zq1 : w.heap.size < w1.heap.size := by omega
    have zl1 : w.heap.size + 1 < w1.heap.size := by omega
    have zr1 : w.heap.size + 2 < w1.heap.size := by omega
    clear hQ hL hR
    go_wp2_with fail
    refine bodyPost_ret (v := .tuple #[.agg #[.string ⟨#[]⟩, .int .i64 0, .int .i64 0, .int .i64 0, .int .i64 0, .slice none 0 0], .int .i64 1]) (by simp [results, Tryz.results13, go_sem, r0, r1, r2, r3, r4, r5]) rfl ?_
    exact bmRes_nil e.out (by repeat (first | with_reducible exact Below.refl _ _ | with_reducible assumption | (with_reducible refine Below.drew ?_) | (with_reducible refine below_drewN ?_ _) | ((with_reducible refine Below.alloc ?_ ?_ _); rotate_left; (focus (first | omega | (simp; omega) | simp))) | ((with_reducible refine Below.setCell ?_ ?_ _); rotate_left; (focus (first | omega | (simp; omega) | simp))) | (refine Below.trans ?_ (Below.mono (by assumption) (by first | omega | (simp; omega) | simp)))))
  generalize hW0 : (((w.alloc (.cells #[.string nm, .int .i64 span, .int .i64 wd, .int .i64 dp, .int .i64 wood, .slice A ls.length c] 26)).alloc (.cells #[.int .i64 a, .int .i64 t] 31)).alloc (.cells #[.string ⟨#[]⟩, .int .i64 0, .int .i64 0, .int .i64 0, .int .i64 0, .slice none 0 0] 26)) = W0 at *
  · obtain ⟨hQ, hL, hR, hBW, hzW⟩ := HBK.out _ B1.out
    have g0 : w1.cell? ⟨w.heap.size, 0, none⟩ = some (.string nm) := by simp [World.cell?, hQ]
    have g1 : w1.cell? ⟨w.heap.size, 1, none⟩ = some (.int .i64 span) := by simp [World.cell?, hQ]
    have g2 : w1.cell? ⟨w.heap.size, 2, none⟩ = some (.int .i64 wd) := by simp [World.cell?, hQ]
    have g3 : w1.cell? ⟨w.heap.size, 3, none⟩ = some (.int .i64 dp) := by simp [World.cell?, hQ]
    have g4 : w1.cell? ⟨w.heap.size, 4, none⟩ = some (.int .i64 wood) := by simp [World.cell?, hQ]
    have g5 : w1.cell? ⟨w.heap.size, 5, none⟩ = some (.slice A ls.length c) := by simp [World.cell?, hQ]
    have l0 : w1.cell? ⟨w.heap.size + 1, 0, none⟩ = some (.int .i64 a) := by simp [World.cell?, hL]
    have l1 : w1.cell? ⟨w.heap.size + 1, 1, none⟩ = some (.int .i64 t) := by simp [World.cell?, hL]
    have r0 : w1.cell? ⟨w.heap.size + 2, 0, none⟩ = some (.string ⟨#[]⟩) := by simp [World.cell?, hR]
    have y0 : w1.frozen? ⟨w.heap.size + 2, 0, none⟩ = false := by simp [World.frozen?, hR]
    have r1 : w1.cell? ⟨w.heap.size + 2, 1, none⟩ = some (.int .i64 0) := by simp [World.cell?, hR]
    have y1 : w1.frozen? ⟨w.heap.size + 2, 1, none⟩ = false := by simp [World.frozen?, hR]
    have r2 : w1.cell? ⟨w.heap.size + 2, 2, none⟩ = some (.int .i64 0) := by simp [World.cell?, hR]
    have y2 : w1.frozen? ⟨w.heap.size + 2, 2, none⟩ = false := by simp [World.frozen?, hR]
    have r3 : w1.cell? ⟨w.heap.size + 2, 3, none⟩ = some (.int .i64 0) := by simp [World.cell?, hR]
    have y3 : w1.frozen? ⟨w.heap.size + 2, 3, none⟩ = false := by simp [World.frozen?, hR]
    have r4 : w1.cell? ⟨w.heap.size + 2, 4, none⟩ = some (.int .i64 0) := by simp [World.cell?, hR]
    have y4 : w1.frozen? ⟨w.heap.size + 2, 4, none⟩ = false := by simp [World.frozen?, hR]
    have r5 : w1.cell? ⟨w.heap.size + 2, 5, none⟩ = some (.slice none 0 0) := by simp [World.cell?, hR]
    have y5 : w1.frozen? ⟨w.heap.size + 2, 5, none⟩ = false := by simp [World.frozen?, hR]
    have zq1 : w.heap.size < w1.heap.size := by omega
    have zl1 : w.heap.size + 1 < w1.heap.size := by omega
    have zr1 : w.heap.size + 2 < w1.heap.size := by omega
    clear hQ hL hR
    go_wp2_with fail
    refine (implisLoad nm span wd dp wood A ls.length c a t _).mono ?_
    rintro e w2 ⟨rfl, hb2⟩
    have B2 := hide (B1.out.trans (hb2.mono (by omega)))
    clear hb2
    clear g0 g1 g2 g3 g4 g5 l0 l1 r0 r1 r2 r3 r4 r5 y0 y1 y2 y3 y4 y5 hBW hzW
    cases hl : ldOk span a t
    · have e := hide (addR_2 hv hl)
      obtain ⟨hQ, hL, hR, hBW, hzW⟩ := HBK.out _ B2.out
      have g0 : w2.cell? ⟨w.heap.size, 0, none⟩ = some (.string nm) := by simp [World.cell?, hQ]
      have g1 : w2.cell? ⟨w.heap.size, 1, none⟩ = some (.int .i64 span) := by simp [World.cell?, hQ]
      have g2 : w2.cell? ⟨w.heap.size, 2, none⟩ = some (.int .i64 wd) := by simp [World.cell?, hQ]
      have g3 : w2.cell? ⟨w.heap.size, 3, none⟩ = some (.int .i64 dp) := by simp [World.cell?, hQ]
      have g4 : w2.cell? ⟨w.heap.size, 4, none⟩ = some (.int .i64 wood) := by simp [World.cell?, hQ]
      have g5 : w2.cell? ⟨w.heap.size, 5, none⟩ = some (.slice A ls.length c) := by simp [World.cell?, hQ]
      have l0 : w2.cell? ⟨w.heap.size + 1, 0, none⟩ = some (.int .i64 a) := by simp [World.cell?, hL]
      have l1 : w2.cell? ⟨w.heap.size + 1, 1, none⟩ = some (.int .i64 t) := by simp [World.cell?, hL]
      have r0 : w2.cell? ⟨w.heap.size + 2, 0, none⟩ = some (.string ⟨#[]⟩) := by simp [World.cell?, hR]
      have y0 : w2.frozen? ⟨w.heap.size + 2, 0, none⟩ = false := by simp [World.frozen?, hR]
      have r1 : w2.cell? ⟨w.heap.size + 2, 1, none⟩ = some (.int .i64 0) := by simp [World.cell?, hR]
      have y1 : w2.frozen? ⟨w.heap.size + 2, 1, none⟩ = false := by simp [World.frozen?, hR]
      have r2 : w2.cell? ⟨w.heap.size + 2, 2, none⟩ = some (.int .i64 0) := by simp [World.cell?, hR]
      have y2 : w2.frozen? ⟨w.heap.size + 2, 2, none⟩ = false := by simp [World.frozen?, hR]
      have r3 : w2.cell? ⟨w.heap.size + 2, 3, none⟩ = some (.int .i64 0) := by simp [World.cell?, hR]
      have y3 : w2.frozen? ⟨w.heap.size + 2, 3, none⟩ = false := by simp [World.frozen?, hR]
      have r4 : w2.cell? ⟨w.heap.size + 2, 4, none⟩ = some (.int .i64 0) := by simp [World.cell?, hR]
      have y4 : w2.frozen? ⟨w.heap.size + 2, 4, none⟩ = false := by simp [World.frozen?, hR]
      have r5 : w2.cell? ⟨w.heap.size + 2, 5, none⟩ = some (.slice none 0 0) := by simp [World.cell?, hR]
      have y5 : w2.frozen? ⟨w.heap.size + 2, 5, none⟩ = false := by simp [World.frozen?, hR]
      have zq2 : w.heap.size < w2.heap.size := by omega
      have zl2 : w.heap.size + 1 < w2.heap.size := by omega
      have zr2 : w.heap.size + 2 < w2.heap.size := by omega
      clear hQ hL hR
      go_wp2_with fail
      refine bodyPost_ret (v := .tuple #[.agg #[.string ⟨#[]⟩, .int .i64 0, .int .i64 0, .int .i64 0, .int .i64 0, .slice none 0 0], .int .i64 2]) (by simp [results, Tryz.results13, go_sem, r0, r1, r2, r3, r4, r5]) rfl ?_
      exact bmRes_nil e.out (by repeat (first | with_reducible exact Below.refl _ _ | with_reducible assumption | (with_reducible refine Below.drew ?_) | (with_reducible refine below_drewN ?_ _) | ((with_reducible refine Below.alloc ?_ ?_ _); rotate_left; (focus (first | omega | (simp; omega) | simp))) | ((with_reducible refine Below.setCell ?_ ?_ _); rotate_left; (focus (first | omega | (simp; omega) | simp))) | (refine Below.trans ?_ (Below.mono (by assumption) (by first | omega | (simp; omega) | simp)))))
    by_cases h8 : 8 ≤ ls.length
    · have e := hide (addR_3 hv hl h8)
      obtain ⟨hQ, hL, hR, hBW, hzW⟩ := HBK.out _ B2.out
      have g0 : w2.cell? ⟨w.heap.size, 0, none⟩ = some (.string nm) := by simp [World.cell?, hQ]
      have g1 : w2.cell? ⟨w.heap.size, 1, none⟩ = some (.int .i64 span) := by simp [World.cell?, hQ]
      have g2 : w2.cell? ⟨w.heap.size, 2, none⟩ = some (.int .i64 wd) := by simp [World.cell?, hQ]
      have g3 : w2.cell? ⟨w.heap.size, 3, none⟩ = some (.int .i64 dp) := by simp [World.cell?, hQ]
      have g4 : w2.cell? ⟨w.heap.size, 4, none⟩ = some (.int .i64 wood) := by simp [World.cell?, hQ]
      have g5 : w2.cell? ⟨w.heap.size, 5, none⟩ = some (.slice A ls.length c) := by simp [World.cell?, hQ]
      have l0 : w2.cell? ⟨w.heap.size + 1, 0, none⟩ = some (.int .i64 a) := by simp [World.cell?, hL]
      have l1 : w2.cell? ⟨w.heap.size + 1, 1, none⟩ = some (.int .i64 t) := by simp [World.cell?, hL]
      have r0 : w2.cell? ⟨w.heap.size + 2, 0, none⟩ = some (.string ⟨#[]⟩) := by simp [World.cell?, hR]
      have y0 : w2.frozen? ⟨w.heap.size + 2, 0, none⟩ = false := by simp [World.frozen?, hR]
      have r1 : w2.cell? ⟨w.heap.size + 2, 1, none⟩ = some (.int .i64 0) := by simp [World.cell?, hR]
      have y1 : w2.frozen? ⟨w.heap.size + 2, 1, none⟩ = false := by simp [World.frozen?, hR]
      have r2 : w2.cell? ⟨w.heap.size + 2, 2, none⟩ = some (.int .i64 0) := by simp [World.cell?, hR]
      have y2 : w2.frozen? ⟨w.heap.size + 2, 2, none⟩ = false := by simp [World.frozen?, hR]
      have r3 : w2.cell? ⟨w.heap.size + 2, 3, none⟩ = some (.int .i64 0) := by simp [World.cell?, hR]
      have y3 : w2.frozen? ⟨w.heap.size + 2, 3, none⟩ = false := by simp [World.frozen?, hR]
      have r4 : w2.cell? ⟨w.heap.size + 2, 4, none⟩ = some (.int .i64 0) := by simp [World.cell?, hR]
      have y4 : w2.frozen? ⟨w.heap.size + 2, 4, none⟩ = false := by simp [World.frozen?, hR]
      have r5 : w2.cell? ⟨w.heap.size + 2, 5, none⟩ = some (.slice none 0 0) := by simp [World.cell?, hR]
      have y5 : w2.frozen? ⟨w.heap.size + 2, 5, none⟩ = false := by simp [World.frozen?, hR]
      have zq2 : w.heap.size < w2.heap.size := by omega
      have zl2 : w.heap.size + 1 < w2.heap.size := by omega
      have zr2 : w.heap.size + 2 < w2.heap.size := by omega
      clear hQ hL hR
      have d8 : decide ((8 : Int) ≤ (ls.length : Int)) = true := by simp; omega
      clear h8
      go_wp2_with fail
      refine bodyPost_ret (v := .tuple #[.agg #[.string ⟨#[]⟩, .int .i64 0, .int .i64 0, .int .i64 0, .int .i64 0, .slice none 0 0], .int .i64 5]) (by simp [results, Tryz.results13, go_sem, r0, r1, r2, r3, r4, r5]) rfl ?_
      exact bmRes_nil e.out (by repeat (first | with_reducible exact Below.refl _ _ | with_reducible assumption | (with_reducible refine Below.drew ?_) | (with_reducible refine below_drewN ?_ _) | ((with_reducible refine Below.alloc ?_ ?_ _); rotate_left; (focus (first | omega | (simp; omega) | simp))) | ((with_reducible refine Below.setCell ?_ ?_ _); rotate_left; (focus (first | omega | (simp; omega) | simp))) | (refine Below.trans ?_ (Below.mono (by assumption) (by first | omega | (simp; omega) | simp)))))
    · have e := hide (addR_4 hv hl h8)
      have d8 : decide ((8 : Int) ≤ (ls.length : Int)) = false := by simp; omega
      obtain ⟨hQ, hL, hR, hBW, hzW⟩ := HBK.out _ B2.out
      have g0 : w2.cell? ⟨w.heap.size, 0, none⟩ = some (.string nm) := by simp [World.cell?, hQ]
      have g1 : w2.cell? ⟨w.heap.size, 1, none⟩ = some (.int .i64 span) := by simp [World.cell?, hQ]
      have g2 : w2.cell? ⟨w.heap.size, 2, none⟩ = some (.int .i64 wd) := by simp [World.cell?, hQ]
      have g3 : w2.cell? ⟨w.heap.size, 3, none⟩ = some (.int .i64 dp) := by simp [World.cell?, hQ]
      have g4 : w2.cell? ⟨w.heap.size, 4, none⟩ = some (.int .i64 wood) := by simp [World.cell?, hQ]
      have g5 : w2.cell? ⟨w.heap.size, 5, none⟩ = some (.slice A ls.length c) := by simp [World.cell?, hQ]
      have l0 : w2.cell? ⟨w.heap.size + 1, 0, none⟩ = some (.int .i64 a) := by simp [World.cell?, hL]
      have l1 : w2.cell? ⟨w.heap.size + 1, 1, none⟩ = some (.int .i64 t) := by simp [World.cell?, hL]
      have r0 : w2.cell? ⟨w.heap.size + 2, 0, none⟩ = some (.string ⟨#[]⟩) := by simp [World.cell?, hR]
      have y0 : w2.frozen? ⟨w.heap.size + 2, 0, none⟩ = false := by simp [World.frozen?, hR]
      have r1 : w2.cell? ⟨w.heap.size + 2, 1, none⟩ = some (.int .i64 0) := by simp [World.cell?, hR]
      have y1 : w2.frozen? ⟨w.heap.size + 2, 1, none⟩ = false := by simp [World.frozen?, hR]
      have r2 : w2.cell? ⟨w.heap.size + 2, 2, none⟩ = some (.int .i64 0) := by simp [World.cell?, hR]
      have y2 : w2.frozen? ⟨w.heap.size + 2, 2, none⟩ = false := by simp [World.frozen?, hR]
      have r3 : w2.cell? ⟨w.heap.size + 2, 3, none⟩ = some (.int .i64 0) := by simp [World.cell?, hR]
      have y3 : w2.frozen? ⟨w.heap.size + 2, 3, none⟩ = false := by simp [World.frozen?, hR]
      have r4 : w2.cell? ⟨w.heap.size + 2, 4, none⟩ = some (.int .i64 0) := by simp [World.cell?, hR]
      have y4 : w2.frozen? ⟨w.heap.size + 2, 4, none⟩ = false := by simp [World.frozen?, hR]
      have r5 : w2.cell? ⟨w.heap.size + 2, 5, none⟩ = some (.slice none 0 0) := by simp [World.cell?, hR]
      have y5 : w2.frozen? ⟨w.heap.size + 2, 5, none⟩ = false := by simp [World.frozen?, hR]
      have zq2 : w.heap.size < w2.heap.size := by omega
      have zl2 : w.heap.size + 1 < w2.heap.size := by omega
      have zr2 : w.heap.size + 2 < w2.heap.size := by omega
      clear hQ hL hR
      go_wp2_with fail
      clear g0 g1 g2 g3 g4 g5 l0 l1 r0 r1 r2 r3 r4 r5 y0 y1 y2 y3 y4 y5 hBW hzW
      clear d8
      go_loopw [6] (fun v wr => ∃ k : Nat, v = .int .i64 k ∧ k ≤ ls.length ∧ Hid (∀ j (hj : j < ls.length), j < k → ls[j].at_ ≤ a) ∧ Hid (Below (w.heap.size + 3) W0 wr)) (fun v _ => ls.length - (intOf v).toNat)
      case atStart => exact ⟨0, rfl, by omega, hide (fun j _ h => by omega), B2⟩
      case round =>
        obtain ⟨k, rfl, hk, HJ, HB⟩ := hrel
        obtain ⟨hQ, hL, hR, hBW, hzW⟩ := HBK.out _ HB.out
        have g0 : wr.cell? ⟨w.heap.size, 0, none⟩ = some (.string nm) := by simp [World.cell?, hQ]
        have g1 : wr.cell? ⟨w.heap.size, 1, none⟩ = some (.int .i64 span) := by simp [World.cell?, hQ]
        have g2 : wr.cell? ⟨w.heap.size, 2, none⟩ = some (.int .i64 wd) := by simp [World.cell?, hQ]
        have g3 : wr.cell? ⟨w.heap.size, 3, none⟩ = some (.int .i64 dp) := by simp [World.cell?, hQ]
        have g4 : wr.cell? ⟨w.heap.size, 4, none⟩ = some (.int .i64 wood) := by simp [World.cell?, hQ]
        have g5 : wr.cell? ⟨w.heap.size, 5, none⟩ = some (.slice A ls.length c) := by simp [World.cell?, hQ]
        have l0 : wr.cell? ⟨w.heap.size + 1, 0, none⟩ = some (.int .i64 a) := by simp [World.cell?, hL]
        have l1 : wr.cell? ⟨w.heap.size + 1, 1, none⟩ = some (.int .i64 t) := by simp [World.cell?, hL]
        have r0 : wr.cell? ⟨w.heap.size + 2, 0, none⟩ = some (.string ⟨#[]⟩) := by simp [World.cell?, hR]
        have y0 : wr.frozen? ⟨w.heap.size + 2, 0, none⟩ = false := by simp [World.frozen?, hR]
        have r1 : wr.cell? ⟨w.heap.size + 2, 1, none⟩ = some (.int .i64 0) := by simp [World.cell?, hR]
        have y1 : wr.frozen? ⟨w.heap.size + 2, 1, none⟩ = false := by simp [World.frozen?, hR]
        have r2 : wr.cell? ⟨w.heap.size + 2, 2, none⟩ = some (.int .i64 0) := by simp [World.cell?, hR]
        have y2 : wr.frozen? ⟨w.heap.size + 2, 2, none⟩ = false := by simp [World.frozen?, hR]
        have r3 : wr.cell? ⟨w.heap.size + 2, 3, none⟩ = some (.int .i64 0) := by simp [World.cell?, hR]
        have y3 : wr.frozen? ⟨w.heap.size + 2, 3, none⟩ = false := by simp [World.frozen?, hR]
        have r4 : wr.cell? ⟨w.heap.size + 2, 4, none⟩ = some (.int .i64 0) := by simp [World.cell?, hR]
        have y4 : wr.frozen? ⟨w.heap.size + 2, 4, none⟩ = false := by simp [World.frozen?, hR]
        have r5 : wr.cell? ⟨w.heap.size + 2, 5, none⟩ = some (.slice none 0 0) := by simp [World.cell?, hR]
        have y5 : wr.frozen? ⟨w.heap.size + 2, 5, none⟩ = false := by simp [World.frozen?, hR]
        have zqr : w.heap.size < wr.heap.size := by omega
        have zlr : w.heap.size + 1 < wr.heap.size := by omega
        have zrr : w.heap.size + 2 < wr.heap.size := by omega
        clear hQ hL hR
        by_cases hlt : k < ls.length
        · obtain ⟨b2, o2, rfl, hb2, hc⟩ := HXW.out wr HB.out k hlt
          have x0 := hc 0 _ rfl
          simp only [Nat.add_zero] at x0
          clear hc
          have hkl : (k : Int) < (ls.length : Int) := by omega
          by_cases hq : ls[k].at_ ≤ a
          · have dq : decide (ls[k].at_ ≤ a) = true := by simp; omega
            have HJ2 := hide (show ∀ j (hj : j < ls.length), j < k + 1 → ls[j].at_ ≤ a from fun j hj hjk => by
              by_cases ej : j = k
              · subst ej; exact hq
              · exact HJ.out j hj (by omega))
            clear hq
            generalize ls[k].at_ = ak at *
            go_wp2_with fail
            refine wp_region_kept (by kernel_rfl) (by kernel_rfl) ?_
            intro gc gf gz
            repeat (go_big_quiet_step (fail))
            refine wpQuiet_nil ?_
            intro w5 hw'
            obtain ⟨⟨_, hb5⟩, rfl⟩ := hw'
            clear gc gf gz
            try dsimp only
            have fs5 := hb5.size
            try simp at fs5 hb5
            have HB5 := hide (HB.out.trans (hb5.mono (by omega)))
            clear hb5 x0
            clear g0 g1 g2 g3 g4 g5 l0 l1 r0 r1 r2 r3 r4 r5 y0 y1 y2 y3 y4 y5 hBW hzW
            go_wp2_with fail
            go_roundw
            case rel => exact ⟨k + 1, by go_num, by omega, HJ2, HB5⟩
            case measure => simp [intOf]; omega
          · have dq : decide (ls[k].at_ ≤ a) = false := by simp; omega
            have hpo := posL_at (a := a) (k := k) hk HJ.out (fun _ => by omega)
            have HE2 := hide (show addR nm span wd dp wood ls a t = ((nm, span, wd, dp, wood), insL ls k ⟨a, t⟩, 0) from by rw [e.out, hpo])
            clear hpo HJ
            clear hq
            generalize ls[k].at_ = ak at *
            go_wp2_with fail
            refine wp_region_kept (by kernel_rfl) (by kernel_rfl) ?_
            intro gc gf gz
            repeat (go_big_quiet_step (fail))
            refine wpQuiet_nil ?_
            intro w5 hw'
            obtain ⟨⟨_, hb5⟩, rfl⟩ := hw'
            clear gc gf gz
            try dsimp only
            have fs5 := hb5.size
            try simp at fs5 hb5
            clear x0 dq
            have HB5 := hide (HB.out.trans (hb5.mono (by omega)))
            clear hb5
            clear g0 g1 g2 g3 g4 g5 l0 l1 r0 r1 r2 r3 r4 r5 y0 y1 y2 y3 y4 y5 hBW hzW
            obtain ⟨hQ, hL, hR, hBW, hzW⟩ := HBK.out _ HB5.out
            have g0 : w5.cell? ⟨w.heap.size, 0, none⟩ = some (.string nm) := by simp [World.cell?, hQ]
            have g1 : w5.cell? ⟨w.heap.size, 1, none⟩ = some (.int .i64 span) := by simp [World.cell?, hQ]
            have g2 : w5.cell? ⟨w.heap.size, 2, none⟩ = some (.int .i64 wd) := by simp [World.cell?, hQ]
            have g3 : w5.cell? ⟨w.heap.size, 3, none⟩ = some (.int .i64 dp) := by simp [World.cell?, hQ]
            have g4 : w5.cell? ⟨w.heap.size, 4, none⟩ = some (.int .i64 wood) := by simp [World.cell?, hQ]
            have g5 : w5.cell? ⟨w.heap.size, 5, none⟩ = some (.slice (some ⟨b2, o2, none⟩) ls.length c) := by simp [World.cell?, hQ]
            have l0 : w5.cell? ⟨w.heap.size + 1, 0, none⟩ = some (.int .i64 a) := by simp [World.cell?, hL]
            have l1 : w5.cell? ⟨w.heap.size + 1, 1, none⟩ = some (.int .i64 t) := by simp [World.cell?, hL]
            have r0 : w5.cell? ⟨w.heap.size + 2, 0, none⟩ = some (.string ⟨#[]⟩) := by simp [World.cell?, hR]
            have y0 : w5.frozen? ⟨w.heap.size + 2, 0, none⟩ = false := by simp [World.frozen?, hR]
            have r1 : w5.cell? ⟨w.heap.size + 2, 1, none⟩ = some (.int .i64 0) := by simp [World.cell?, hR]
            have y1 : w5.frozen? ⟨w.heap.size + 2, 1, none⟩ = false := by simp [World.frozen?, hR]
            have r2 : w5.cell? ⟨w.heap.size + 2, 2, none⟩ = some (.int .i64 0) := by simp [World.cell?, hR]
            have y2 : w5.frozen? ⟨w.heap.size + 2, 2, none⟩ = false := by simp [World.frozen?, hR]
            have r3 : w5.cell? ⟨w.heap.size + 2, 3, none⟩ = some (.int .i64 0) := by simp [World.cell?, hR]
            have y3 : w5.frozen? ⟨w.heap.size + 2, 3, none⟩ = false := by simp [World.frozen?, hR]
            have r4 : w5.cell? ⟨w.heap.size + 2, 4, none⟩ = some (.int .i64 0) := by simp [World.cell?, hR]
            have y4 : w5.frozen? ⟨w.heap.size + 2, 4, none⟩ = false := by simp [World.frozen?, hR]
            have r5 : w5.cell? ⟨w.heap.size + 2, 5, none⟩ = some (.slice none 0 0) := by simp [World.cell?, hR]
            have y5 : w5.frozen? ⟨w.heap.size + 2, 5, none⟩ = false := by simp [World.frozen?, hR]
            have zq5 : w.heap.size < w5.heap.size := by omega
            have zl5 : w.heap.size + 1 < w5.heap.size := by omega
            have zr5 : w.heap.size + 2 < w5.heap.size := by omega
            clear hQ hL hR
            go_wp2_with fail
            refine (copyBeamG nm span wd dp wood _ c ls _ (HXW.out _ HB5.out) HCL.out).mono ?_
            rintro e6 w6 ⟨A6, c6, rfl, ho6, hb6⟩
            clear g0 g1 g2 g3 g4 g5 l0 l1 r0 r1 r2 r3 r4 r5 y0 y1 y2 y3 y4 y5 hBW hzW
            have B56 := hide hb6
            have B6 := hide (HB5.out.trans (hb6.mono (by have := HB5.out.size; omega)))
            have HO6 := hide ho6
            have hz6 := hb6.size
            have hz5 := HB5.out.size
            clear ho6 hb6
            obtain ⟨hQ6, hL6, hR6, hBW6, hzW6⟩ := HBK.out _ B6.out
            clear hBW6
            have l0 : w6.cell? ⟨w.heap.size + 1, 0, none⟩ = some (.int .i64 a) := by simp [World.cell?, hL6]
            have l1 : w6.cell? ⟨w.heap.size + 1, 1, none⟩ = some (.int .i64 t) := by simp [World.cell?, hL6]
            have hlq : w.heap.size + 1 < w6.heap.size := by omega
            have HB6 := hide (And.intro hQ6 (And.intro hL6 hR6))
            clear hQ6 hL6 hR6
            go_wp2_with fail
            have HO8 := hide (show OwnL ((w6.alloc (.cells #[.string nm, .int .i64 span, .int .i64 wd, .int .i64 dp, .int .i64 wood, .slice A6 ls.length c6] 26)).alloc (.cells #[.int .i64 a, .int .i64 t] 31)) w5.heap.size (.slice A6 ls.length c6) ls from (HO6.out.below ((Below.refl _ _).alloc (Nat.le_refl _) _)).below ((Below.refl _ _).alloc (Nat.le_refl _) _))
            have hz8 : ((w6.alloc (.cells #[.string nm, .int .i64 span, .int .i64 wd, .int .i64 dp, .int .i64 wood, .slice A6 ls.length c6] 26)).alloc (.cells #[.int .i64 a, .int .i64 t] 31)).heap.size = w6.heap.size + 2 := by simp
            have HV8 := hide (show ((w6.alloc (.cells #[.string nm, .int .i64 span, .int .i64 wd, .int .i64 dp, .int .i64 wood, .slice A6 ls.length c6] 26)).alloc (.cells #[.int .i64 a, .int .i64 t] 31)).heap[w6.heap.size + 1]? = some (.cells (encLoad ⟨a, t⟩).toArray 31 (0, 0)) from by have q := heap_alloc_new (w6.alloc (.cells #[.string nm, .int .i64 span, .int .i64 wd, .int .i64 dp, .int .i64 wood, .slice A6 ls.length c6] 26)) (.cells #[.int .i64 a, .int .i64 t] 31); simpa [encLoad] using q)
            have HOB8 := hide (show ((w6.alloc (.cells #[.string nm, .int .i64 span, .int .i64 wd, .int .i64 dp, .int .i64 wood, .slice A6 ls.length c6] 26)).alloc (.cells #[.int .i64 a, .int .i64 t] 31)).heap[w6.heap.size]? = some (.cells #[.string nm, .int .i64 span, .int .i64 wd, .int .i64 dp, .int .i64 wood, .slice A6 ls.length c6] 26 (0, 0)) from (heap_alloc_old _ _ (by simp)).trans (heap_alloc_new w6 _))
            have HR8 := hide (show ((w6.alloc (.cells #[.string nm, .int .i64 span, .int .i64 wd, .int .i64 dp, .int .i64 wood, .slice A6 ls.length c6] 26)).alloc (.cells #[.int .i64 a, .int .i64 t] 31)).heap[w.heap.size + 2]? = some (.cells #[.string ⟨#[]⟩, .int .i64 0, .int .i64 0, .int .i64 0, .int .i64 0, .slice none 0 0] 26 (0, 0)) from (heap_alloc_old _ _ (by simp; omega)).trans ((heap_alloc_old _ _ (by omega)).trans HB6.out.2.2))
            have B8 := hide (show Below w5.heap.size w5 ((w6.alloc (.cells #[.string nm, .int .i64 span, .int .i64 wd, .int .i64 dp, .int .i64 wood, .slice A6 ls.length c6] 26)).alloc (.cells #[.int .i64 a, .int .i64 t] 31)) from (B56.out.alloc hz6 _).alloc (by simp; omega) _)
            have hown6 := fun g (q : (Value.slice A6 ls.length c6).ownBlock = some g) => HO6.out.lt g q
            have HOL := hide hown6
            clear hown6 l0 l1 HO6 HB6
            refine (insertLoad w5.heap.size c6 _ (w6.heap.size + 1) A6 ls ⟨a, t⟩ _ HO8.out (by omega) (by omega) (by omega) HV8.out (fun g q => by have := (HOL.out g q).2; omega)).mono ?_
            rintro e9 w9 ⟨A9, c9, rfl, ho9, hg9, hsz9⟩
            have hOB : w9.heap[w6.heap.size]? = some (.cells #[.string nm, .int .i64 span, .int .i64 wd, .int .i64 dp, .int .i64 wood, .slice A6 ls.length c6] 26 (0, 0)) := (hg9.block _ (by omega) (fun q => by have := (HOL.out _ q.symm).2; omega)).trans HOB8.out
            have hRC : w9.heap[w.heap.size + 2]? = some (.cells #[.string ⟨#[]⟩, .int .i64 0, .int .i64 0, .int .i64 0, .int .i64 0, .slice none 0 0] 26 (0, 0)) := (hg9.block _ (by omega) (fun q => by have := (HOL.out _ q.symm).1; omega)).trans HR8.out
            have B9 := hide (show Below w5.heap.size w5 w9 from Below.grown B8.out hg9 B8.out.size (fun g q => (HOL.out g q).1))
            have g0 : w9.cell? ⟨w6.heap.size, 0, none⟩ = some (.string nm) := by simp [World.cell?, hOB]
            have g1 : w9.cell? ⟨w6.heap.size, 1, none⟩ = some (.int .i64 span) := by simp [World.cell?, hOB]
            have g2 : w9.cell? ⟨w6.heap.size, 2, none⟩ = some (.int .i64 wd) := by simp [World.cell?, hOB]
            have g3 : w9.cell? ⟨w6.heap.size, 3, none⟩ = some (.int .i64 dp) := by simp [World.cell?, hOB]
            have g4 : w9.cell? ⟨w6.heap.size, 4, none⟩ = some (.int .i64 wood) := by simp [World.cell?, hOB]
            have g5 : w9.cell? ⟨w6.heap.size, 5, none⟩ = some (.slice A6 ls.length c6) := by simp [World.cell?, hOB]
            have f5 : w9.frozen? ⟨w6.heap.size, 5, none⟩ = false := by simp [World.frozen?, hOB]
            have r0 : w9.cell? ⟨w.heap.size + 2, 0, none⟩ = some (.string ⟨#[]⟩) := by simp [World.cell?, hRC]
            have y0 : w9.frozen? ⟨w.heap.size + 2, 0, none⟩ = false := by simp [World.frozen?, hRC]
            have r1 : w9.cell? ⟨w.heap.size + 2, 1, none⟩ = some (.int .i64 0) := by simp [World.cell?, hRC]
            have y1 : w9.frozen? ⟨w.heap.size + 2, 1, none⟩ = false := by simp [World.frozen?, hRC]
            have r2 : w9.cell? ⟨w.heap.size + 2, 2, none⟩ = some (.int .i64 0) := by simp [World.cell?, hRC]
            have y2 : w9.frozen? ⟨w.heap.size + 2, 2, none⟩ = false := by simp [World.frozen?, hRC]
            have r3 : w9.cell? ⟨w.heap.size + 2, 3, none⟩ = some (.int .i64 0) := by simp [World.cell?, hRC]
            have y3 : w9.frozen? ⟨w.heap.size + 2, 3, none⟩ = false := by simp [World.frozen?, hRC]
            have r4 : w9.cell? ⟨w.heap.size + 2, 4, none⟩ = some (.int .i64 0) := by simp [World.cell?, hRC]
            have y4 : w9.frozen? ⟨w.heap.size + 2, 4, none⟩ = false := by simp [World.frozen?, hRC]
            have r5 : w9.cell? ⟨w.heap.size + 2, 5, none⟩ = some (.slice none 0 0) := by simp [World.cell?, hRC]
            have y5 : w9.frozen? ⟨w.heap.size + 2, 5, none⟩ = false := by simp [World.frozen?, hRC]
            have HO9 := hide ho9
            have HT9 := hide hOB
            have BW9 := hide (show Below w.heap.size w w9 from ((HBK.out _ HB5.out).2.2.2.1).trans (B9.out.mono (by omega)))
            have hq1 : w.heap.size + 2 < w6.heap.size := by omega
            have hq2 : w6.heap.size < w9.heap.size := by omega
            clear hOB hRC ho9 hg9
            go_wp2_with fail
            refine bodyPost_ret (v := .tuple #[.agg #[.string nm, .int .i64 span, .int .i64 wd, .int .i64 dp, .int .i64 wood, .slice A9 (ls.length + 1) c9], .int .i64 0]) (by simp [results, Tryz.results13, go_sem, r0, r1, r2, r3, r4, r5]) rfl ?_
            refine ⟨nm, span, wd, dp, wood, A9, c9, insL ls k ⟨a, t⟩, 0, by rw [insL_len (by omega)], HE2.out, hs, by rw [insL_len (by omega)]; omega, ?_, ?_⟩
            · rw [insL_len (by omega)]
              refine Own.mono (B := w5.heap.size) ?_ (by omega)
              repeat (first | with_reducible refine own_setOut ?_ (by omega) | with_reducible exact own_setType HO9.out HT9.out (by decide))
            · have hb := BW9.out
              exact (by repeat (first | with_reducible exact Below.refl _ _ | with_reducible assumption | (with_reducible refine Below.drew ?_) | (with_reducible refine below_drewN ?_ _) | ((with_reducible refine Below.alloc ?_ ?_ _); rotate_left; (focus (first | omega | (simp; omega) | simp))) | ((with_reducible refine Below.setCell ?_ ?_ _); rotate_left; (focus (first | omega | (simp; omega) | simp))) | (refine Below.trans ?_ (Below.mono (by assumption) (by first | omega | (simp; omega) | simp)))))
        · obtain rfl : k = ls.length := by omega
          have hpo := posL_at (a := a) (k := ls.length) hk HJ.out (fun h => by omega)
          have HE2 := hide (show addR nm span wd dp wood ls a t = ((nm, span, wd, dp, wood), insL ls ls.length ⟨a, t⟩, 0) from by rw [e.out, hpo])
          clear hpo HJ
          go_wp2_with fail
          refine wp_region_kept (by kernel_rfl) (by kernel_rfl) ?_
          intro gc gf gz
          repeat (go_big_quiet_step (fail))
          refine wpQuiet_nil ?_
          intro w5 hw'
          obtain ⟨⟨_, hb5⟩, rfl⟩ := hw'
          clear gc gf gz
          try dsimp only
          have fs5 := hb5.size
          try simp at fs5 hb5
          have HB5 := hide (HB.out.trans (hb5.mono (by omega)))
          clear hb5
          clear g0 g1 g2 g3 g4 g5 l0 l1 r0 r1 r2 r3 r4 r5 y0 y1 y2 y3 y4 y5 hBW hzW
          obtain ⟨hQ, hL, hR, hBW, hzW⟩ := HBK.out _ HB5.out
          have g0 : w5.cell? ⟨w.heap.size, 0, none⟩ = some (.string nm) := by simp [World.cell?, hQ]
          have g1 : w5.cell? ⟨w.heap.size, 1, none⟩ = some (.int .i64 span) := by simp [World.cell?, hQ]
          have g2 : w5.cell? ⟨w.heap.size, 2, none⟩ = some (.int .i64 wd) := by simp [World.cell?, hQ]
          have g3 : w5.cell? ⟨w.heap.size, 3, none⟩ = some (.int .i64 dp) := by simp [World.cell?, hQ]
          have g4 : w5.cell? ⟨w.heap.size, 4, none⟩ = some (.int .i64 wood) := by simp [World.cell?, hQ]
          have g5 : w5.cell? ⟨w.heap.size, 5, none⟩ = some (.slice A ls.length c) := by simp [World.cell?, hQ]
          have l0 : w5.cell? ⟨w.heap.size + 1, 0, none⟩ = some (.int .i64 a) := by simp [World.cell?, hL]
          have l1 : w5.cell? ⟨w.heap.size + 1, 1, none⟩ = some (.int .i64 t) := by simp [World.cell?, hL]
          have r0 : w5.cell? ⟨w.heap.size + 2, 0, none⟩ = some (.string ⟨#[]⟩) := by simp [World.cell?, hR]
          have y0 : w5.frozen? ⟨w.heap.size + 2, 0, none⟩ = false := by simp [World.frozen?, hR]
          have r1 : w5.cell? ⟨w.heap.size + 2, 1, none⟩ = some (.int .i64 0) := by simp [World.cell?, hR]
          have y1 : w5.frozen? ⟨w.heap.size + 2, 1, none⟩ = false := by simp [World.frozen?, hR]
          have r2 : w5.cell? ⟨w.heap.size + 2, 2, none⟩ = some (.int .i64 0) := by simp [World.cell?, hR]
          have y2 : w5.frozen? ⟨w.heap.size + 2, 2, none⟩ = false := by simp [World.frozen?, hR]
          have r3 : w5.cell? ⟨w.heap.size + 2, 3, none⟩ = some (.int .i64 0) := by simp [World.cell?, hR]
          have y3 : w5.frozen? ⟨w.heap.size + 2, 3, none⟩ = false := by simp [World.frozen?, hR]
          have r4 : w5.cell? ⟨w.heap.size + 2, 4, none⟩ = some (.int .i64 0) := by simp [World.cell?, hR]
          have y4 : w5.frozen? ⟨w.heap.size + 2, 4, none⟩ = false := by simp [World.frozen?, hR]
          have r5 : w5.cell? ⟨w.heap.size + 2, 5, none⟩ = some (.slice none 0 0) := by simp [World.cell?, hR]
          have y5 : w5.frozen? ⟨w.heap.size + 2, 5, none⟩ = false := by simp [World.frozen?, hR]
          have zq5 : w.heap.size < w5.heap.size := by omega
          have zl5 : w.heap.size + 1 < w5.heap.size := by omega
          have zr5 : w.heap.size + 2 < w5.heap.size := by omega
          clear hQ hL hR
          go_wp2_with fail
          refine (copyBeamG nm span wd dp wood A c ls _ (HXW.out _ HB5.out) HCL.out).mono ?_
          rintro e6 w6 ⟨A6, c6, rfl, ho6, hb6⟩
          clear g0 g1 g2 g3 g4 g5 l0 l1 r0 r1 r2 r3 r4 r5 y0 y1 y2 y3 y4 y5 hBW hzW
          have B56 := hide hb6
          have B6 := hide (HB5.out.trans (hb6.mono (by have := HB5.out.size; omega)))
          have HO6 := hide ho6
          have hz6 := hb6.size
          have hz5 := HB5.out.size
          clear ho6 hb6
          obtain ⟨hQ6, hL6, hR6, hBW6, hzW6⟩ := HBK.out _ B6.out
          clear hBW6
          have l0 : w6.cell? ⟨w.heap.size + 1, 0, none⟩ = some (.int .i64 a) := by simp [World.cell?, hL6]
          have l1 : w6.cell? ⟨w.heap.size + 1, 1, none⟩ = some (.int .i64 t) := by simp [World.cell?, hL6]
          have hlq : w.heap.size + 1 < w6.heap.size := by omega
          have HB6 := hide (And.intro hQ6 (And.intro hL6 hR6))
          clear hQ6 hL6 hR6
          go_wp2_with fail
          have HO8 := hide (show OwnL ((w6.alloc (.cells #[.string nm, .int .i64 span, .int .i64 wd, .int .i64 dp, .int .i64 wood, .slice A6 ls.length c6] 26)).alloc (.cells #[.int .i64 a, .int .i64 t] 31)) w5.heap.size (.slice A6 ls.length c6) ls from (HO6.out.below ((Below.refl _ _).alloc (Nat.le_refl _) _)).below ((Below.refl _ _).alloc (Nat.le_refl _) _))
          have hz8 : ((w6.alloc (.cells #[.string nm, .int .i64 span, .int .i64 wd, .int .i64 dp, .int .i64 wood, .slice A6 ls.length c6] 26)).alloc (.cells #[.int .i64 a, .int .i64 t] 31)).heap.size = w6.heap.size + 2 := by simp
          have HV8 := hide (show ((w6.alloc (.cells #[.string nm, .int .i64 span, .int .i64 wd, .int .i64 dp, .int .i64 wood, .slice A6 ls.length c6] 26)).alloc (.cells #[.int .i64 a, .int .i64 t] 31)).heap[w6.heap.size + 1]? = some (.cells (encLoad ⟨a, t⟩).toArray 31 (0, 0)) from by have q := heap_alloc_new (w6.alloc (.cells #[.string nm, .int .i64 span, .int .i64 wd, .int .i64 dp, .int .i64 wood, .slice A6 ls.length c6] 26)) (.cells #[.int .i64 a, .int .i64 t] 31); simpa [encLoad] using q)
          have HOB8 := hide (show ((w6.alloc (.cells #[.string nm, .int .i64 span, .int .i64 wd, .int .i64 dp, .int .i64 wood, .slice A6 ls.length c6] 26)).alloc (.cells #[.int .i64 a, .int .i64 t] 31)).heap[w6.heap.size]? = some (.cells #[.string nm, .int .i64 span, .int .i64 wd, .int .i64 dp, .int .i64 wood, .slice A6 ls.length c6] 26 (0, 0)) from (heap_alloc_old _ _ (by simp)).trans (heap_alloc_new w6 _))
          have HR8 := hide (show ((w6.alloc (.cells #[.string nm, .int .i64 span, .int .i64 wd, .int .i64 dp, .int .i64 wood, .slice A6 ls.length c6] 26)).alloc (.cells #[.int .i64 a, .int .i64 t] 31)).heap[w.heap.size + 2]? = some (.cells #[.string ⟨#[]⟩, .int .i64 0, .int .i64 0, .int .i64 0, .int .i64 0, .slice none 0 0] 26 (0, 0)) from (heap_alloc_old _ _ (by simp; omega)).trans ((heap_alloc_old _ _ (by omega)).trans HB6.out.2.2))
          have B8 := hide (show Below w5.heap.size w5 ((w6.alloc (.cells #[.string nm, .int .i64 span, .int .i64 wd, .int .i64 dp, .int .i64 wood, .slice A6 ls.length c6] 26)).alloc (.cells #[.int .i64 a, .int .i64 t] 31)) from (B56.out.alloc hz6 _).alloc (by simp; omega) _)
          have hown6 := fun g (q : (Value.slice A6 ls.length c6).ownBlock = some g) => HO6.out.lt g q
          have HOL := hide hown6
          clear hown6 l0 l1 HO6 HB6
          refine (insertLoad w5.heap.size c6 _ (w6.heap.size + 1) A6 ls ⟨a, t⟩ _ HO8.out (by omega) (by omega) (by omega) HV8.out (fun g q => by have := (HOL.out g q).2; omega)).mono ?_
          rintro e9 w9 ⟨A9, c9, rfl, ho9, hg9, hsz9⟩
          have hOB : w9.heap[w6.heap.size]? = some (.cells #[.string nm, .int .i64 span, .int .i64 wd, .int .i64 dp, .int .i64 wood, .slice A6 ls.length c6] 26 (0, 0)) := (hg9.block _ (by omega) (fun q => by have := (HOL.out _ q.symm).2; omega)).trans HOB8.out
          have hRC : w9.heap[w.heap.size + 2]? = some (.cells #[.string ⟨#[]⟩, .int .i64 0, .int .i64 0, .int .i64 0, .int .i64 0, .slice none 0 0] 26 (0, 0)) := (hg9.block _ (by omega) (fun q => by have := (HOL.out _ q.symm).1; omega)).trans HR8.out
          have B9 := hide (show Below w5.heap.size w5 w9 from Below.grown B8.out hg9 B8.out.size (fun g q => (HOL.out g q).1))
          have g0 : w9.cell? ⟨w6.heap.size, 0, none⟩ = some (.string nm) := by simp [World.cell?, hOB]
          have g1 : w9.cell? ⟨w6.heap.size, 1, none⟩ = some (.int .i64 span) := by simp [World.cell?, hOB]
          have g2 : w9.cell? ⟨w6.heap.size, 2, none⟩ = some (.int .i64 wd) := by simp [World.cell?, hOB]
          have g3 : w9.cell? ⟨w6.heap.size, 3, none⟩ = some (.int .i64 dp) := by simp [World.cell?, hOB]
          have g4 : w9.cell? ⟨w6.heap.size, 4, none⟩ = some (.int .i64 wood) := by simp [World.cell?, hOB]
          have g5 : w9.cell? ⟨w6.heap.size, 5, none⟩ = some (.slice A6 ls.length c6) := by simp [World.cell?, hOB]
          have f5 : w9.frozen? ⟨w6.heap.size, 5, none⟩ = false := by simp [World.frozen?, hOB]
          have r0 : w9.cell? ⟨w.heap.size + 2, 0, none⟩ = some (.string ⟨#[]⟩) := by simp [World.cell?, hRC]
          have y0 : w9.frozen? ⟨w.heap.size + 2, 0, none⟩ = false := by simp [World.frozen?, hRC]
          have r1 : w9.cell? ⟨w.heap.size + 2, 1, none⟩ = some (.int .i64 0) := by simp [World.cell?, hRC]
          have y1 : w9.frozen? ⟨w.heap.size + 2, 1, none⟩ = false := by simp [World.frozen?, hRC]
          have r2 : w9.cell? ⟨w.heap.size + 2, 2, none⟩ = some (.int .i64 0) := by simp [World.cell?, hRC]
          have y2 : w9.frozen? ⟨w.heap.size + 2, 2, none⟩ = false := by simp [World.frozen?, hRC]
          have r3 : w9.cell? ⟨w.heap.size + 2, 3, none⟩ = some (.int .i64 0) := by simp [World.cell?, hRC]
          have y3 : w9.frozen? ⟨w.heap.size + 2, 3, none⟩ = false := by simp [World.frozen?, hRC]
          have r4 : w9.cell? ⟨w.heap.size + 2, 4, none⟩ = some (.int .i64 0) := by simp [World.cell?, hRC]
          have y4 : w9.frozen? ⟨w.heap.size + 2, 4, none⟩ = false := by simp [World.frozen?, hRC]
          have r5 : w9.cell? ⟨w.heap.size + 2, 5, none⟩ = some (.slice none 0 0) := by simp [World.cell?, hRC]
          have y5 : w9.frozen? ⟨w.heap.size + 2, 5, none⟩ = false := by simp [World.frozen?, hRC]
          have HO9 := hide ho9
          have HT9 := hide hOB
          have BW9 := hide (show Below w.heap.size w w9 from ((HBK.out _ HB5.out).2.2.2.1).trans (B9.out.mono (by omega)))
          have hq1 : w.heap.size + 2 < w6.heap.size := by omega
          have hq2 : w6.heap.size < w9.heap.size := by omega
          clear hOB hRC ho9 hg9
          go_wp2_with fail
          refine bodyPost_ret (v := .tuple #[.agg #[.string nm, .int .i64 span, .int .i64 wd, .int .i64 dp, .int .i64 wood, .slice A9 (ls.length + 1) c9], .int .i64 0]) (by simp [results, Tryz.results13, go_sem, r0, r1, r2, r3, r4, r5]) rfl ?_
          refine ⟨nm, span, wd, dp, wood, A9, c9, insL ls ls.length ⟨a, t⟩, 0, by rw [insL_len (by omega)], HE2.out, hs, by rw [insL_len (by omega)]; omega, ?_, ?_⟩
          · rw [insL_len (by omega)]
            refine Own.mono (B := w5.heap.size) ?_ (by omega)
            repeat (first | with_reducible refine own_setOut ?_ (by omega) | with_reducible exact own_setType HO9.out HT9.out (by decide))
          · have hb := BW9.out
            exact (by repeat (first | with_reducible exact Below.refl _ _ | with_reducible assumption | (with_reducible refine Below.drew ?_) | (with_reducible refine below_drewN ?_ _) | ((with_reducible refine Below.alloc ?_ ?_ _); rotate_left; (focus (first | omega | (simp; omega) | simp))) | ((with_reducible refine Below.setCell ?_ ?_ _); rotate_left; (focus (first | omega | (simp; omega) | simp))) | (refine Below.trans ?_ (Below.mono (by assumption) (by first | omega | (simp; omega) | simp)))))
end Go.Proofs.YtajodbhbmfjmjaaGreatDoor
