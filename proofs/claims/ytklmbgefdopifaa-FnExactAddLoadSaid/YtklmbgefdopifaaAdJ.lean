/- slices.Insert of one load into a row of loads of the call's own. -/
import Derived.Test.YtklmbgefdopifaaAdI
namespace Go.Proofs.Ytklmbgefdopifaa
open Go.RowKit Go.Lib

/-- What an insertion leaves. -/
def InsPost (B : Nat) (v : Value) (ls : List LoadR) (i : Nat) (x : LoadR) (w : World) (e : Ending) (w' : World) : Prop := ∃ (A : Option Addr) (c : Nat), e = .returned (.slice A (ls.length + 1) c) ∧ OwnL w' B (.slice A (ls.length + 1) c) (insL ls i x) ∧ w.grownBy w' v.ownBlock ∧ w.heap.size ≤ w'.heap.size
theorem setCells_heap (b : Nat) : ∀ (vs : List Value) (o : Nat) (w w' : World), w.heap = w'.heap → (w.setCells b o vs).heap = (w'.setCells b o vs).heap := by
  intro vs
  induction vs with
  | nil => intro o w w' h; exact h
  | cons v vs ih => intro o w w' h; exact ih (o + 1) _ _ (by simp only [World.setCell, h])
theorem info_size : (Try.prog.info? 34).map (·.size) = some 2 := by kernel_rfl
set_option maxHeartbeats 4000000 in
set_option maxRecDepth 100000 in
theorem insertLoad_shift (B g c i vb : Nat) (ls : List LoadR) (x : LoadR) (w : World) (h : OwnL w B (.slice (some ⟨g, 0, none⟩) ls.length c) ls) (hi : i < ls.length) (hn : ls.length ≤ 1000) (hroom : ls.length + 1 ≤ c) (hv : w.heap[vb]? = some (.cells (encLoad x).toArray 34 (0, 0))) (hvb : vb ≠ g) :
    Calls Try.prog 48 #[.slice (some ⟨g, 0, none⟩) ls.length c, .int .i64 i, .slice (some ⟨vb, 0, none⟩) 1 1] w (InsPost B (.slice (some ⟨g, 0, none⟩) ls.length c) ls i x w) := by
  rcases h.2 with ⟨e, _⟩ | ⟨g2, cap, cur, e, hB, hc, hle, hmx, hsz, htk⟩
  · cases e
  injection e with e1 e2 e3
  injection e1 with e1
  injection e1 with e1
  subst e1
  subst e3
  have hfl := flatL_len ls
  have hcur : ∀ j, j < ls.length * 2 → cur[j]? = (ls.flatMap encLoad)[j]? := fun j hj => by
    rw [← htk, List.getElem?_take_of_lt hj, Array.getElem?_toList]
  have hcs : ∀ j v, (ls.flatMap encLoad)[j]? = some v → w.cell? ⟨g, j, none⟩ = some v := fun j v hj => by
    have hjl : j < ls.length * 2 := by
      have := (List.getElem?_eq_some_iff.1 hj).1
      omega
    simp only [World.cell?, hc]
    rw [hcur j hjl]
    exact hj
  have hsp : ∀ j, j < c * 2 → (w.cell? ⟨g, j, none⟩).isSome = true := fun j hj => by
    simp only [World.cell?, hc]
    rw [Array.getElem?_eq_getElem (by omega)]
    rfl
  have hfz : ∀ j, w.frozen? ⟨g, j, none⟩ = false := fun j => by simp [World.frozen?, hc]
  have hvs : ∀ j v, (encLoad x)[j]? = some v → w.cell? ⟨vb, j, none⟩ = some v := fun j v hj => by
    simp only [World.cell?, hv]
    simpa using hj
  have hz2 : ¬ ((i : Int) = (ls.length : Int)) := by omega
  have hov : ∀ lb cb, (callFunc 83 #[.slice (some ⟨vb, 0, none⟩) 1 1, .slice (some ⟨g, (i + 1) * 2, none⟩) lb cb]).run Try.prog w = .ok (.value (.bool false)) w := fun lb cb => by
    rw [run_callFunc_extern Try.func83 (by kernel_rfl) (by kernel_rfl) (by kernel_rfl) (e := Extern.SlicesOverlaps.overlaps #[28, 28] #[4]) (by kernel_rfl),
      Lib.run_overlaps_apart w 28 4 34 Try.underlying28 2 Try.sizeOf34 ⟨vb, 0, none⟩ ⟨g, (i + 1) * 2, none⟩ 1 1 lb cb hvb 34 34 2 (c * 2) (by simp [World.shape?, hv, encLoad]) (by simp [World.shape?, hc, hsz]) (by omega) (by simp [World.frozen?, hv]) (by simp [World.frozen?, hv])]
    rfl
  have hcp1 : ∀ ty dl dc sl sc, Nat.min sl dl = ls.length - i → (Builtin.copy_ #[28, 28] ty #[.slice (some ⟨g, (i + 1) * 2, none⟩) dl dc, .slice (some ⟨g, i * 2, none⟩) sl sc]).run Try.prog w.drew = .ok (goInt ((ls.length - i : Nat) : Int)) (w.drew.setCells g ((i + 1) * 2) ((ls.drop i).flatMap encLoad)) := fun ty dl dc sl sc hm => by
    have q := run_copy_cellsN w.drew 28 28 ty 34 g ((i + 1) * 2) dl dc ⟨g, i * 2, none⟩ sl sc 2 ((ls.drop i).flatMap encLoad) Try.underlying28 info_size (by rw [flatL_len, List.length_drop, hm])
      (fun j v hj => by
        rw [Addr.add_lit]
        refine hcs (i * 2 + j) v ?_
        rw [← flatL_drop, List.getElem?_drop] at hj
        exact hj)
      (fun j hj => by rw [flatL_len, List.length_drop] at hj; exact hsp _ (by omega)) (fun j _ => hfz _) (flatL_one _)
    rw [hm] at q
    exact q
  obtain ⟨W1, hW1⟩ : ∃ W1, W1 = w.drew.setCells g ((i + 1) * 2) ((ls.drop i).flatMap encLoad) := ⟨_, rfl⟩
  have hsp1 : ∀ j, j < c * 2 → (W1.cell? ⟨g, j, none⟩).isSome = true := fun j hj => by
    rw [hW1]
    exact isSome_setCells g _ _ _ (fun k hk => by rw [flatL_len, List.length_drop] at hk; exact hsp _ (by omega)) _ (hsp j hj)
  have hcp2 : ∀ (W : World), (∀ x, W.cell? x = W1.cell? x) → (∀ x, W.frozen? x = W1.frozen? x) → ∀ ty dl dc, 0 < dl → (Builtin.copy_ #[28, 28] ty #[.slice (some ⟨g, i * 2, none⟩) dl dc, .slice (some ⟨vb, 0, none⟩) 1 1]).run Try.prog W = .ok (goInt 1) (W.setCells g (i * 2) (encLoad x)) := fun W hWc hWf ty dl dc hd => by
    have hm : Nat.min 1 dl = 1 := Nat.min_eq_left hd
    have q := run_copy_cellsN W 28 28 ty 34 g (i * 2) dl dc ⟨vb, 0, none⟩ 1 1 2 (encLoad x) Try.underlying28 info_size (by rw [hm]; rfl)
      (fun j v hj => by
        rw [Addr.add_lit, hWc, hW1, World.cell?_setCells_out g _ _ _ _ (fun h _ => absurd h hvb), Nat.zero_add]
        exact hvs j v hj)
      (fun j hj => by
        have hj2 : j < 2 := hj
        rw [hWc]
        exact hsp1 _ (by omega)) (fun j _ => by rw [hWf, hW1, World.frozen?_setCells]; exact hfz _) (encL_one x)
    rw [hm] at q
    exact q
  rw [← hW1] at hcp1
  have HOV := hov
  have HC1 := hide hcp1
  have HC2 := hide hcp2
  have hc63 : c ≤ 9223372036854775807 := by unfold maxLen at hmx; exact hmx
  have hb4 : ¬ (c = i) := by omega
  have hb5 : ¬ (c = i + 1) := by omega
  have hw1 : IntKind.i64.wrap ((i : Int) + 1) = (i : Int) + 1 := IntWalk.i64_in _ (by omega)
  have hb1 : (0 : Int) ≤ (i : Int) + 1 := by omega
  have hb2 : (i : Int) + 1 ≤ (ls.length : Int) + 1 := by omega
  have hb3 : (i : Int) ≤ (ls.length : Int) + 1 := by omega
  have htn : ((i : Int) + 1).toNat = i + 1 := by omega
  have HFIN := hide (show OwnL ((w.drew.setCells g ((i + 1) * 2) ((ls.drop i).flatMap encLoad)).setCells g (i * 2) (encLoad x)) B (.slice (some ⟨g, 0, none⟩) (ls.length + 1) c) (insL ls i x) ∧ w.grownBy ((w.drew.setCells g ((i + 1) * 2) ((ls.drop i).flatMap encLoad)).setCells g (i * 2) (encLoad x)) (Value.slice (some ⟨g, 0, none⟩) ls.length c).ownBlock ∧ w.heap.size ≤ ((w.drew.setCells g ((i + 1) * 2) ((ls.drop i).flatMap encLoad)).setCells g (i * 2) (encLoad x)).heap.size from by
    obtain ⟨c1, e1, z1, o1, n1⟩ := setCells_block g ((ls.drop i).flatMap encLoad) ((i + 1) * 2) w.drew cur _ _ hc
    obtain ⟨c2, e2', z2, o2, n2⟩ := setCells_block g (encLoad x) (i * 2) _ c1 _ _ e1
    have hdl : ((ls.drop i).flatMap encLoad).length = (ls.length - i) * 2 := by rw [flatL_len, List.length_drop]
    have hx2 : (encLoad x).length = 2 := rfl
    refine ⟨own_ins hB e2' hroom hmx (by omega) (by omega) (fun j hj => ?_) (fun j hj => ?_) (fun j hj => ?_), ⟨?_, ?_, ?_, ?_, fun k hk hne => ?_⟩, ?_⟩
    · rw [o2 j (.inl hj), o1 j (.inl (by omega)), hcur j (by omega)]
    · exact n2 j hj (by omega)
    · rw [o2 _ (.inr (by omega))]
      exact n1 j (by omega) (by omega)
    · rw [(setCells_rest g _ _ _).1, (setCells_rest g _ _ _).1]; rfl
    · rw [(setCells_rest g _ _ _).2.1, (setCells_rest g _ _ _).2.1]; rfl
    · rw [(setCells_rest g _ _ _).2.2, (setCells_rest g _ _ _).2.2]; rfl
    · rw [setCells_size, setCells_size]; exact Nat.le_refl _
    · have hkg : k ≠ g := fun q => hne (by rw [q]; rfl)
      rw [setCells_other g _ _ _ _ hkg, setCells_other g _ _ _ _ hkg]; rfl
    · rw [setCells_size, setCells_size]; exact Nat.le_refl _)
  clear hov hcp1 hcp2 hsp1 hsp hcs hvs hfz hcur htk hB hc hmx hsz h e2 hfl
  go_enter Try.func48, Try.ntmps48
  go_wp2_with (simp only [HOV])
  go_region_law (refine step_copy_runI rfl _ _ 28 28 rfl (.slice (some ⟨g, (i + 1) * 2, none⟩) (ls.length + 1 - (i + 1)) (c - (i + 1))) (.slice (some ⟨g, i * 2, none⟩) (ls.length + 1 - i) (c - i)) (by simp [Act.eval, Act.put]) (by simp [Act.eval, Act.put]) (HC1.out _ _ _ _ _ (by simp only [Nat.min_def]; split <;> omega)) ?_)
  have hc2x := HC2.out (w.drew.setCells g ((i + 1) * 2) ((ls.drop i).flatMap encLoad)) (fun _ => by rw [hW1]) (fun _ => by rw [hW1]) 3 (ls.length + 1 - i) (c - i) (by omega)
  go_wp2_with (simp only [hc2x])
  go_ret
  exact ⟨some ⟨g, 0, none⟩, c, rfl, HFIN.out.1, HFIN.out.2.1, HFIN.out.2.2⟩
set_option maxHeartbeats 4000000 in
set_option maxRecDepth 100000 in
theorem insertLoad_grow (B g c i vb : Nat) (ls : List LoadR) (x : LoadR) (w : World) (h : OwnL w B (.slice (some ⟨g, 0, none⟩) ls.length c) ls) (hi : i < ls.length) (hn : ls.length ≤ 1000) (hroom : c < ls.length + 1) (hv : w.heap[vb]? = some (.cells (encLoad x).toArray 34 (0, 0))) :
    Calls Try.prog 48 #[.slice (some ⟨g, 0, none⟩) ls.length c, .int .i64 i, .slice (some ⟨vb, 0, none⟩) 1 1] w (InsPost B (.slice (some ⟨g, 0, none⟩) ls.length c) ls i x w) := by
  rcases h.2 with ⟨e, _⟩ | ⟨g2, cap, cur, e, hB, hc, hle, hmx, hsz, htk⟩
  · cases e
  injection e with e1 e2 e3
  injection e1 with e1
  injection e1 with e1
  subst e1
  subst e3
  have hfl := flatL_len ls
  have hgl : g < w.heap.size := (Array.getElem?_eq_some_iff.1 hc).1
  have hvl : vb < w.heap.size := (Array.getElem?_eq_some_iff.1 hv).1
  have hcur : ∀ j, j < ls.length * 2 → cur[j]? = (ls.flatMap encLoad)[j]? := fun j hj => by
    rw [← htk, List.getElem?_take_of_lt hj, Array.getElem?_toList]
  have hcs : ∀ j v, (ls.flatMap encLoad)[j]? = some v → w.cell? ⟨g, j, none⟩ = some v := fun j v hj => by
    have hjl : j < ls.length * 2 := by
      have := (List.getElem?_eq_some_iff.1 hj).1
      omega
    simp only [World.cell?, hc]
    rw [hcur j hjl]
    exact hj
  have hvs : ∀ j v, (encLoad x)[j]? = some v → w.cell? ⟨vb, j, none⟩ = some v := fun j v hj => by
    simp only [World.cell?, hv]
    simpa using hj
  obtain ⟨i0, hi0, hz0, hzs, hzb⟩ := info_parts info_LdA
  have hold : (Builtin.firstCells i0.size i (.slice (some ⟨g, 0, none⟩) i c)).run Try.prog w.drew = .ok ((ls.take i).flatMap encLoad).toArray w.drew := by
    rw [hzs]
    refine run_firstCells_some w.drew 2 i ⟨g, 0, none⟩ i c ((ls.take i).flatMap encLoad) (by rw [flatL_len, List.length_take]; omega) (fun j v hj => ?_)
    rw [Addr.add_lit, Nat.zero_add]
    rw [← flatL_take, List.getElem?_take] at hj
    split at hj
    · exact hcs j v hj
    · cases hj
  have hrz : ∀ ty, (Builtin.append_ #[28, 3] ty #[.slice (some ⟨g, 0, none⟩) i c, .int .i64 ((ls.length : Int) + 1 - (i : Int))]).run Try.prog w =
      .ok (.slice (some ⟨w.heap.size, 0, none⟩) (ls.length + 1) (grownCap w (ls.length + 1) c 34)) (w.drew.alloc (.cells (((ls.take i).flatMap encLoad).toArray ++ Builtin.zeroCells (Value.agg #[.int .i64 0, .int .i64 0]).cells (ls.length + 1 - i) ++ Builtin.zeroCells (Value.agg #[.int .i64 0, .int .i64 0]).cells (grownCap w (ls.length + 1) c 34 - (ls.length + 1))) 34)) := fun ty => by
    have hik : i + (ls.length + 1 - i) = ls.length + 1 := by omega
    have q := Lib.run_append_grow_zeros w 28 3 ty 34 i0 _ .i64 .i64 Try.underlying28 Try.underlying3 hi0 hz0 (some ⟨g, 0, none⟩) i c ((ls.take i).flatMap encLoad) hold (ls.length + 1 - i) (by omega) (by omega) (by omega) (by omega) (by rw [hzb]; omega) (by rw [hzb, hik]; exact growslice_fits hroom (by omega))
    rw [hik] at q
    rw [show (ls.length : Int) + 1 - (i : Int) = ((ls.length + 1 - i : Nat) : Int) by omega]
    exact q
  have hGn : ls.length + 1 ≤ grownCap w (ls.length + 1) c 34 := grownCap_ge w _ _ _
  have hGm : grownCap w (ls.length + 1) c 34 ≤ maxLen := grownCap_le_maxLen w (ls.length + 1) c 34 (by unfold maxLen; omega)
  generalize grownCap w (ls.length + 1) c 34 = G at *
  obtain ⟨ROW, hROW⟩ : ∃ ROW : Array Value, ROW = ((ls.take i).flatMap encLoad).toArray ++ Builtin.zeroCells (Value.agg #[.int .i64 0, .int .i64 0]).cells (ls.length + 1 - i) ++ Builtin.zeroCells (Value.agg #[.int .i64 0, .int .i64 0]).cells (G - (ls.length + 1)) := ⟨_, rfl⟩
  rw [← hROW] at hrz
  have htl : ((ls.take i).flatMap encLoad).length = i * 2 := by rw [flatL_len, List.length_take]; omega
  have hRs : ROW.size = G * 2 := by
    rw [hROW]
    simp only [Array.size_append, List.size_toArray, htl, Builtin.zeroCells, Array.size_map, Array.size_range, Value.cells]
    simp
    omega
  have hR0 : ∀ j, j < i * 2 → ROW[j]? = (ls.flatMap encLoad)[j]? := fun j hj => by
    rw [hROW, Array.append_assoc, Array.getElem?_append_left (by rw [List.size_toArray, htl]; exact hj), List.getElem?_toArray, ← flatL_take, List.getElem?_take_of_lt hj]
  obtain ⟨N, hN⟩ : ∃ N, N = w.heap.size := ⟨_, rfl⟩
  have hdl : ((ls.drop i).flatMap encLoad).length = (ls.length - i) * 2 := by rw [flatL_len, List.length_drop]
  have hx2 : (encLoad x).length = 2 := rfl
  have hNb : (w.drew.alloc (.cells ROW 34)).heap[w.heap.size]? = some (.cells ROW 34 (0, 0)) := heap_alloc_new w.drew _
  have hFIN : ∀ W' : World, W'.heap = (((w.drew.alloc (.cells ROW 34)).setCells w.heap.size (i * 2) (encLoad x)).setCells w.heap.size ((i + 1) * 2) ((ls.drop i).flatMap encLoad)).heap → W'.os = w.os → W'.tape = w.tape → W'.output = w.output →
      OwnL W' B (.slice (some ⟨w.heap.size, 0, none⟩) (ls.length + 1) G) (insL ls i x) ∧ w.grownBy W' (Value.slice (some ⟨g, 0, none⟩) ls.length c).ownBlock ∧ w.heap.size ≤ W'.heap.size := fun W' hh ho ht hp => by
    obtain ⟨c1, e1, z1, o1, n1⟩ := setCells_block w.heap.size (encLoad x) (i * 2) _ ROW _ _ hNb
    obtain ⟨c2, e2', z2, o2, n2⟩ := setCells_block w.heap.size ((ls.drop i).flatMap encLoad) ((i + 1) * 2) _ c1 _ _ e1
    have hsz' : W'.heap.size = w.heap.size + 1 := by
      rw [hh, setCells_size, setCells_size]
      show (w.drew.alloc _).heap.size = _
      simp [World.alloc]
    refine ⟨own_ins (cur := c2) (by omega) (by rw [hh]; exact e2') hGn hGm (by omega) (by omega) (fun j hj => ?_) (fun j hj => ?_) (fun j hj => ?_), ⟨ho, ht, hp, by omega, fun k hk _ => ?_⟩, by omega⟩
    · rw [o2 j (.inl (by omega)), o1 j (.inl hj), hR0 j hj]
    · rw [o2 _ (.inl (by omega))]
      exact n1 j (by omega) (by omega)
    · exact n2 j (by omega) (by omega)
    · have hkN : k ≠ w.heap.size := by omega
      rw [hh, setCells_other _ _ _ _ _ hkN, setCells_other _ _ _ _ _ hkN]
      exact heap_alloc_old w.drew _ hk
  have hNc : ∀ j, j < G * 2 → ((w.drew.alloc (.cells ROW 34)).cell? ⟨w.heap.size, j, none⟩).isSome = true := fun j hj => by
    simp only [World.cell?, hNb]
    rw [Array.getElem?_eq_getElem (by omega)]
    rfl
  have hNf : ∀ j, (w.drew.alloc (.cells ROW 34)).frozen? ⟨w.heap.size, j, none⟩ = false := fun j => by simp only [World.frozen?, hNb]; simp
  have hOc : ∀ k j v, k < w.heap.size → w.cell? ⟨k, j, none⟩ = some v → (w.drew.alloc (.cells ROW 34)).cell? ⟨k, j, none⟩ = some v := fun k j v hk hq => by
    have e : (w.drew.alloc (.cells ROW 34)).heap[k]? = w.heap[k]? := heap_alloc_old w.drew _ hk
    simp only [World.cell?] at hq ⊢
    rw [e]
    exact hq
  have hcA : ∀ (W : World), (∀ x, W.cell? x = (w.drew.alloc (.cells ROW 34)).cell? x) → (∀ x, W.frozen? x = (w.drew.alloc (.cells ROW 34)).frozen? x) → ∀ ty dl dc, 0 < dl → (Builtin.copy_ #[28, 28] ty #[.slice (some ⟨w.heap.size, i * 2, none⟩) dl dc, .slice (some ⟨vb, 0, none⟩) 1 1]).run Try.prog W = .ok (goInt 1) (W.setCells w.heap.size (i * 2) (encLoad x)) := fun W hWc hWf ty dl dc hd => by
    have hm : Nat.min 1 dl = 1 := Nat.min_eq_left hd
    have q := run_copy_cellsN W 28 28 ty 34 w.heap.size (i * 2) dl dc ⟨vb, 0, none⟩ 1 1 2 (encLoad x) Try.underlying28 info_size (by rw [hm]; rfl)
      (fun j v hj => by
        rw [Addr.add_lit, hWc, Nat.zero_add]
        exact hOc vb j v hvl (hvs j v hj))
      (fun j hj => by
        have hj2 : j < 2 := hj
        rw [hWc]
        exact hNc _ (by omega)) (fun j _ => by rw [hWf]; exact hNf _) (encL_one x)
    rw [hm] at q
    exact q
  have hcB : ∀ (W : World), (∀ p, W.cell? p = ((w.drew.alloc (.cells ROW 34)).setCells w.heap.size (i * 2) (encLoad x)).cell? p) → (∀ p, W.frozen? p = ((w.drew.alloc (.cells ROW 34)).setCells w.heap.size (i * 2) (encLoad x)).frozen? p) → ∀ ty dl dc sl sc, Nat.min sl dl = ls.length - i → (Builtin.copy_ #[28, 28] ty #[.slice (some ⟨w.heap.size, (i + 1) * 2, none⟩) dl dc, .slice (some ⟨g, i * 2, none⟩) sl sc]).run Try.prog W = .ok (goInt ((ls.length - i : Nat) : Int)) (W.setCells w.heap.size ((i + 1) * 2) ((ls.drop i).flatMap encLoad)) := fun W hWc hWf ty dl dc sl sc hm => by
    have q := run_copy_cellsN W 28 28 ty 34 w.heap.size ((i + 1) * 2) dl dc ⟨g, i * 2, none⟩ sl sc 2 ((ls.drop i).flatMap encLoad) Try.underlying28 info_size (by rw [hdl, hm])
      (fun j v hj => by
        rw [Addr.add_lit, hWc, World.cell?_setCells_out _ _ _ _ _ (fun h _ => absurd h (by show g ≠ w.heap.size; omega))]
        refine hOc g _ v hgl (hcs (i * 2 + j) v ?_)
        rw [← flatL_drop, List.getElem?_drop] at hj
        exact hj)
      (fun j hj => by
        rw [hdl] at hj
        rw [hWc]
        exact isSome_setCells _ _ _ _ (fun k hk => by rw [hx2] at hk; exact hNc _ (by omega)) _ (hNc _ (by omega))) (fun j _ => by rw [hWf, World.frozen?_setCells]; exact hNf _) (flatL_one _)
    rw [hm] at q
    exact q
  have HFIN := hide hFIN
  have HA := hide hcA
  have HB := hide hcB
  have HRZ := hide (hrz 28)
  have hz2 : ¬ ((i : Int) = (ls.length : Int)) := by omega
  have hz3 : (c : Int) < (ls.length : Int) + 1 := by omega
  have hc63 : c ≤ 9223372036854775807 := by unfold maxLen at hmx; exact hmx
  have hG63 : G ≤ 9223372036854775807 := by unfold maxLen at hGm; exact hGm
  have hb4 : ¬ (c = i) := by omega
  have hG4 : ¬ (G = i) := by omega
  have hG5 : ¬ (G = i + 1) := by omega
  have hw1 : IntKind.i64.wrap ((i : Int) + 1) = (i : Int) + 1 := IntWalk.i64_in _ (by omega)
  have hw2 : IntKind.i64.wrap ((ls.length : Int) + 1 - (i : Int)) = (ls.length : Int) + 1 - (i : Int) := IntWalk.i64_in _ (by omega)
  have hb1 : (0 : Int) ≤ (i : Int) + 1 := by omega
  have hb2 : (i : Int) + 1 ≤ (ls.length : Int) + 1 := by omega
  have hb3 : (i : Int) ≤ (ls.length : Int) + 1 := by omega
  have hi2 : i ≤ ls.length := by omega
  have htn : ((i : Int) + 1).toNat = i + 1 := by omega
  clear hFIN hcA hcB hrz hNc hNf hOc hNb hR0 hcs hvs hcur htk hold hi0 hz0 hzs hzb hROW hRs htl hB hc hmx hsz h e2 hfl hGm hN
  go_enter Try.func48, Try.ntmps48
  go_wp2_with (at_builtin; go_loud (refine Lib.wpList_append_run _ rfl _ _ _ _ rfl _ _ rfl rfl _ _ HRZ.out ?_))
  have hcx := HA.out ((w.alloc (.cells ROW 34)).drew) (fun _ => rfl) (fun _ => rfl) 3 (ls.length + 1 - i) (G - i) (by omega)
  go_wp2_with (simp only [hcx])
  go_region_law (refine step_copy_runI rfl _ _ 28 28 rfl (.slice (some ⟨w.heap.size, (i + 1) * 2, none⟩) (ls.length + 1 - (i + 1)) (G - (i + 1))) (.slice (some ⟨g, i * 2, none⟩) (ls.length - i) (c - i)) (by simp [Act.eval, Act.put]) (by simp [Act.eval, Act.put]) (HB.out (((w.alloc (.cells ROW 34)).drew.setCells w.heap.size (i * 2) (encLoad x)).drew) (fun _ => rfl) (fun _ => rfl) _ _ _ _ _ (by simp only [Nat.min_def]; split <;> omega)) ?_)
  have hf := HFIN.out ((((w.alloc (.cells ROW 34)).drew.setCells w.heap.size (i * 2) (encLoad x)).drew).setCells w.heap.size ((i + 1) * 2) ((ls.drop i).flatMap encLoad)) (setCells_heap _ _ _ _ _ (setCells_heap _ _ _ _ _ rfl)) (by rw [(setCells_rest _ _ _ _).1, drew_setCells, (setCells_rest _ _ _ _).1]; rfl) (by rw [(setCells_rest _ _ _ _).2.1, drew_setCells, (setCells_rest _ _ _ _).2.1]; rfl) (by rw [(setCells_rest _ _ _ _).2.2, drew_setCells, (setCells_rest _ _ _ _).2.2]; rfl)
  have HF := hide hf
  clear hf
  go_wp2_with fail
  go_ret
  exact ⟨some ⟨w.heap.size, 0, none⟩, G, rfl, HF.out.1, HF.out.2.1, HF.out.2.2⟩
set_option maxHeartbeats 2000000 in
set_option maxRecDepth 100000 in
theorem insertLoad_end (B c vb : Nat) (A : Option Addr) (ls : List LoadR) (x : LoadR) (w : World) (h : OwnL w B (.slice A ls.length c) ls) (hn : ls.length ≤ 1000) (hBw : B ≤ w.heap.size) (hv : w.heap[vb]? = some (.cells (encLoad x).toArray 34 (0, 0))) :
    Calls Try.prog 48 #[.slice A ls.length c, .int .i64 ls.length, .slice (some ⟨vb, 0, none⟩) 1 1] w (InsPost B (.slice A ls.length c) ls ls.length x w) := by
  obtain ⟨i0, hi0, hz0, hzs, hzb⟩ := info_parts info_LdA
  have hfin : insL ls ls.length x = ls ++ [x] := by simp [insL]
  have HFIN := hide hfin
  have HO := hide h
  have hvs : ∀ (j : Nat) (u : Value), (encLoad x)[j]? = some u → w.cell? ((⟨vb, 0, none⟩ : Addr).add j) = some u := fun j u hj => by
    rw [Addr.add_lit, Nat.zero_add]
    simp only [World.cell?, hv]
    simpa using hj
  have HVS := hide hvs
  have hcc : ls.length ≤ c ∧ c ≤ 9223372036854775807 := by
    rcases h.2 with ⟨e, q⟩ | ⟨g, cap, cur, e, _, _, hc1, hc2, _⟩
    · injection e with e1 e2 e3
      omega
    · injection e with e1 e2 e3
      unfold maxLen at hc2
      omega
  obtain ⟨hc1, hc2⟩ := hcc
  have hcase : (A = none ∧ c = 0 ∧ ls.length = 0) ∨ ∃ g, A = some ⟨g, 0, none⟩ := by
    rcases h.2 with ⟨e, q⟩ | ⟨g, cap, cur, e, _⟩
    · injection e with e1 e2 e3
      exact .inl ⟨e1, e3, q⟩
    · injection e with e1 e2 e3
      exact .inr ⟨g, e1⟩
  clear hvs hfin h
  rcases hcase with ⟨rfl, rfl, h0⟩ | ⟨g, rfl⟩
  · have := List.length_eq_zero_iff.1 h0
    subst this
    go_enter Try.func48, Try.ntmps48
    go_wp2_with (at_builtin; refine wpList_app (sz := 2) (bytes := 16) Try.underlying28 hi0 hz0 hzs hzb rfl (by omega) (by omega) (fun _ => rfl) rfl _ _ rfl B rfl HO.out x (encL_one x) rfl HVS.out (by simp) hBw ?_; intro A1 c1 w1 ho1 hb1 hg1)
    go_ret
    exact ⟨A1, c1, by simp, by simpa [insL] using ho1, hg1, hb1.size⟩
  · go_enter Try.func48, Try.ntmps48
    go_wp2_with (at_builtin; refine wpList_app (sz := 2) (bytes := 16) Try.underlying28 hi0 hz0 hzs hzb rfl (by omega) (by omega) (fun _ => rfl) rfl _ _ rfl B rfl HO.out x (encL_one x) rfl HVS.out (by omega) hBw ?_; intro A1 c1 w1 ho1 hb1 hg1)
    all_goals
      go_ret
      exact ⟨A1, c1, rfl, by rw [HFIN.out]; exact ho1, hg1, hb1.size⟩
/-- One load is put into a row of the call's own. -/
theorem insertLoad (B c i vb : Nat) (A : Option Addr) (ls : List LoadR) (x : LoadR) (w : World) (h : OwnL w B (.slice A ls.length c) ls) (hi : i ≤ ls.length) (hn : ls.length ≤ 1000) (hBw : B ≤ w.heap.size) (hv : w.heap[vb]? = some (.cells (encLoad x).toArray 34 (0, 0))) (hne : ∀ g, (Value.slice A ls.length c).ownBlock = some g → vb ≠ g) :
    Calls Try.prog 48 #[.slice A ls.length c, .int .i64 i, .slice (some ⟨vb, 0, none⟩) 1 1] w (InsPost B (.slice A ls.length c) ls i x w) := by
  by_cases he : i = ls.length
  · subst he
    exact insertLoad_end B c vb A ls x w h hn hBw hv
  · obtain ⟨g, rfl, _, _⟩ := own_addr h (by omega)
    by_cases hr : ls.length + 1 ≤ c
    · exact insertLoad_shift B g c i vb ls x w h (by omega) hn hr hv (hne g rfl)
    · exact insertLoad_grow B g c i vb ls x w h (by omega) hn (by omega) hv
end Go.Proofs.Ytklmbgefdopifaa
