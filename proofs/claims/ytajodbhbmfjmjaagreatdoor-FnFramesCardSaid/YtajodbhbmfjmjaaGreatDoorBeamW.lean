/- What a text says of a beam: plain laws, no program. -/
import Derived.Test.YtajodbhbmfjmjaaGreatDoorTextBeam
import Derived.Test.YtajodbhbmfjmjaaGreatDoorRdList
namespace Go.Proofs.YtajodbhbmfjmjaaGreatDoor
open Go.RowKit Go.Lib

/-- A load with a text: the weight, an '@', the place. -/
def ldO (p : List UInt8) : Option LoadR := match splitL 64 p with
  | [u, v] => match numO u with
    | some x => match numO v with | some y => some ⟨y, x⟩ | none => none
    | none => none
  | _ => none
def atL (p : List UInt8) : List UInt8 := (Lib.cut p [64]).1
def atR (p : List UInt8) : List UInt8 := (Lib.cut p [64]).2.1
/-- A load as the program reads it. -/
def ldI (p : List UInt8) : LoadR := ⟨numV (atR p), numV (atL p)⟩
theorem at_cut {a r : List UInt8} (h : (64 : UInt8) ∉ a) : atL (a ++ 64 :: r) = a ∧ atR (a ++ 64 :: r) = r := by
  unfold atL atR Lib.cut
  rcases index_one 64 (a ++ 64 :: r) with ⟨h1, h2⟩ | ⟨a2, r2, h0, h1, h2⟩
  · exact absurd (by simp) h1
  · have e : (a2.length : Int).toNat = a2.length := by omega
    have hs := congrArg (splitL 64) h0
    rw [splitL_hit _ _ h, splitL_hit _ _ h1] at hs
    injection hs with ha _
    subst ha
    have hr : r2 = r := by simpa using h0.symm
    subst hr
    rw [if_pos (by rw [h2]; omega), h2]
    simp only [e]
    exact ⟨by simp, by simp⟩
theorem ldW_split (x : LoadR) : splitL 64 (ldW x) = [itoa x.wt, itoa x.at_] := by
  unfold ldW
  rw [show itoa x.wt ++ [64] ++ itoa x.at_ = itoa x.wt ++ 64 :: itoa x.at_ by simp, splitL_hit _ _ (itoa_at _), splitL_one (itoa_at _)]
theorem ldO_some {p : List UInt8} {x : LoadR} (h : ldO p = some x) : p = ldW x ∧ ldI p = x := by
  unfold ldO at h
  split at h
  · rename_i u v hs
    split at h
    · rename_i a ha
      split at h
      · rename_i b hb
        injection h with h
        subst h
        have h1 := ((numO_iff u a).1 ha).1
        have h2 := ((numO_iff v b).1 hb).1
        have hj := join_split 64 p
        rw [hs, join_cons2, Lib.join_one] at hj
        have hp : p = u ++ 64 :: v := by rw [← hj]; simp
        have hno : (64 : UInt8) ∉ u := by rw [← h1]; exact itoa_at a
        refine ⟨by rw [hp, ← h1, ← h2]; unfold ldW; simp, ?_⟩
        obtain ⟨c1, c2⟩ := at_cut (r := v) hno
        unfold ldI
        rw [hp, c1, c2]
        unfold numV
        rw [ha, hb]
        rfl
      · cases h
    · cases h
  · cases h
theorem ldO_of {x : LoadR} (h0 : -1000000000000000000 < x.wt ∧ x.wt < 1000000000000000000) (h1 : -1000000000000000000 < x.at_ ∧ x.at_ < 1000000000000000000) : ldO (ldW x) = some x := by
  unfold ldO
  rw [ldW_split]
  simp only
  rw [(numO_iff _ x.wt).2 ⟨rfl, h0.1, h0.2⟩]
  simp only
  rw [(numO_iff _ x.at_).2 ⟨rfl, h1.1, h1.2⟩]
theorem ldW_blank (x : LoadR) : (32 : UInt8) ∉ ldW x := by
  unfold ldW
  intro h
  rcases List.mem_append.1 h with h | h
  · rcases List.mem_append.1 h with h | h
    · exact itoa_blank _ h
    · simp at h
  · exact itoa_blank _ h
/-- A beam's fields. -/
structure BmR where
  nm : ByteArray
  x1 : Int
  x2 : Int
  x3 : Int
  x4 : Int
  ls : List LoadR
noncomputable def BmR.ok (r : BmR) : Bool := vBeam r.nm r.x1 r.x2 r.x3 r.x4 r.ls
noncomputable def BmR.tx (r : BmR) : ByteArray := txBeam r.nm r.x1 r.x2 r.x3 r.x4 r.ls
/-- The beam with a text. -/
noncomputable def oBeam (l : List UInt8) : Option BmR := match splitL 32 l with
  | a :: b :: r => match listO b with
    | some [x1, x2, x3, x4] => match allO ldO r with
      | some ls => if vBeam ⟨a.toArray⟩ x1 x2 x3 x4 ls = true then some ⟨⟨a.toArray⟩, x1, x2, x3, x4, ls⟩ else none
      | none => none
    | _ => none
  | _ => none
noncomputable def bmV (l : List UInt8) : BmR := (oBeam l).getD ⟨⟨#[]⟩, 0, 0, 0, 0, []⟩
noncomputable def bmOk (l : List UInt8) : Bool := (oBeam l).isSome
theorem bm_none {l : List UInt8} (h : oBeam l = none) : Hid (bmV l = ⟨⟨#[]⟩, 0, 0, 0, 0, []⟩) ∧ Hid (bmOk l = false) := by unfold Hid bmV bmOk; rw [h]; exact ⟨rfl, rfl⟩
theorem bm_some {l : List UInt8} {r : BmR} (h : oBeam l = some r) : Hid (bmV l = r) ∧ Hid (bmOk l = true) := by unfold Hid bmV bmOk; rw [h]; exact ⟨rfl, rfl⟩
theorem oBeam_few {l : List UInt8} (h : (splitL 32 l).length < 2) : oBeam l = none := by
  unfold oBeam
  split
  · rename_i hs
    rw [hs] at h
    simp at h
    omega
  · rfl
theorem split_two {l : List UInt8} (h : ¬ (splitL 32 l).length < 2) : ∃ a b r, splitL 32 l = a :: b :: r := by
  match hs : splitL 32 l with
  | [] => rw [hs] at h; simp at h
  | [a] => rw [hs] at h; simp at h
  | a :: b :: r => exact ⟨a, b, r, rfl⟩
theorem oBeam_row {l a b : List UInt8} {r : List (List UInt8)} (hs : splitL 32 l = a :: b :: r) (h : (rdL b).length ≠ 4) : oBeam l = none := by
  unfold oBeam
  rw [hs]
  simp only
  split
  · rename_i h4
    exact absurd (by unfold rdL; rw [h4]; rfl) h
  · rfl
theorem row_of {b : List UInt8} (h : (rdL b).length = 4) : ∃ x1 x2 x3 x4, listO b = some [x1, x2, x3, x4] ∧ rdL b = [x1, x2, x3, x4] := by
  unfold rdL at h ⊢
  cases hl : listO b with
  | none => rw [hl] at h; simp at h
  | some xs =>
    rw [hl] at h
    simp only [Option.getD_some] at h ⊢
    match xs, h with
    | [x1, x2, x3, x4], _ => exact ⟨x1, x2, x3, x4, rfl, rfl⟩
theorem oBeam_loads {l a b : List UInt8} {r : List (List UInt8)} {x1 x2 x3 x4 : Int} (hs : splitL 32 l = a :: b :: r) (h4 : listO b = some [x1, x2, x3, x4]) :
    oBeam l = match allO ldO r with
      | some ls => if vBeam ⟨a.toArray⟩ x1 x2 x3 x4 ls = true then some ⟨⟨a.toArray⟩, x1, x2, x3, x4, ls⟩ else none
      | none => none := by
  unfold oBeam
  rw [hs]
  simp only
  rw [h4]
theorem allO_ld {r : List (List UInt8)} {ls : List LoadR} (h : allO ldO r = some ls) : r = ls.map ldW ∧ r.map ldI = ls := by
  obtain ⟨h1, h2⟩ := (allO_iff r ls).1 h
  constructor
  · apply List.ext_getElem (by simpa using h1)
    intro j hj hj2
    rw [List.getElem_map]
    exact (ldO_some (h2 j r[j] (ls[j]'(by omega)) (List.getElem?_eq_getElem hj) (List.getElem?_eq_getElem (by omega)))).1
  · apply List.ext_getElem (by simpa using h1)
    intro j hj hj2
    rw [List.getElem_map]
    exact (ldO_some (h2 j (r[j]'(by simpa using hj)) ls[j] (List.getElem?_eq_getElem (by simpa using hj)) (List.getElem?_eq_getElem hj2))).2
theorem allO_ldW {ls : List LoadR} (h : ∀ x ∈ ls, (-1000000000000000000 < x.wt ∧ x.wt < 1000000000000000000) ∧ -1000000000000000000 < x.at_ ∧ x.at_ < 1000000000000000000) : allO ldO (ls.map ldW) = some ls := by
  refine (allO_iff _ _).2 ⟨by simp, fun j p x hp hx => ?_⟩
  rw [List.getElem?_map, hx] at hp
  simp only [Option.map_some, Option.some.injEq] at hp
  subst hp
  have := h x (List.mem_of_getElem? hx)
  exact ldO_of this.1 this.2
/-- What the program asks at the end: the beam is valid and its text is the text read. -/
theorem oBeam_iff {s : ByteArray} {a b : List UInt8} {r : List (List UInt8)} {x1 x2 x3 x4 : Int} (hs : splitL 32 s.data.toList = a :: b :: r) (h4 : listO b = some [x1, x2, x3, x4]) :
    (vBeam ⟨a.toArray⟩ x1 x2 x3 x4 (r.map ldI) = true → txBeam ⟨a.toArray⟩ x1 x2 x3 x4 (r.map ldI) = s → oBeam s.data.toList = some ⟨⟨a.toArray⟩, x1, x2, x3, x4, r.map ldI⟩) ∧
    (∀ q, oBeam s.data.toList = some q → q = ⟨⟨a.toArray⟩, x1, x2, x3, x4, r.map ldI⟩ ∧ vBeam ⟨a.toArray⟩ x1 x2 x3 x4 (r.map ldI) = true ∧ txBeam ⟨a.toArray⟩ x1 x2 x3 x4 (r.map ldI) = s) := by
  have ho := oBeam_loads hs h4
  constructor
  · intro hv ht
    have hr : r = (r.map ldI).map ldW := by
      unfold txBeam at ht
      rw [if_pos hv] at ht
      have ht2 : bmW ⟨a.toArray⟩ [x1, x2, x3, x4] (r.map ldI) (r.map ldI).length = s.data.toList := by rw [← ht]
      unfold bmW at ht2
      rw [List.take_length] at ht2
      have hsp := split_join (c := 32) ((⟨a.toArray⟩ : ByteArray).data.toList :: rowText [x1, x2, x3, x4] :: (r.map ldI).map ldW) (by simp) (by
        intro y hy
        rcases List.mem_cons.1 hy with hy | hy
        · exact splitL_no s.data.toList y (by rw [hs, hy]; simp)
        rcases List.mem_cons.1 hy with rfl | hy
        · exact rowText_blank _
        · obtain ⟨x, _, rfl⟩ := List.mem_map.1 hy
          exact ldW_blank x)
      rw [ht2, hs] at hsp
      injection hsp with _ hsp
      injection hsp with _ hsp
    have hq := vBeam_true hv
    have ha : allO ldO r = some (r.map ldI) := by
      have := allO_ldW (ls := r.map ldI) (fun x hx => by have := hq.2.2.2.2.2.1 x hx; omega)
      rw [← hr] at this
      exact this
    rw [ho, ha]
    simp only
    rw [if_pos hv]
  · intro q hq
    rw [ho] at hq
    cases ha : allO ldO r with
    | none => rw [ha] at hq; simp at hq
    | some ls =>
      rw [ha] at hq
      simp only at hq
      split at hq
      · rename_i hv
        injection hq with hq
        obtain ⟨h1, h2⟩ := allO_ld ha
        rw [h2]
        refine ⟨hq.symm, hv, ?_⟩
        have hvv := vBeam_vals hv
        have hb : rowText [x1, x2, x3, x4] = b := by
          rw [← list_row (xs := [x1, x2, x3, x4]) (by simp) hvv.2.1]
          exact (listO_some h4).1
        unfold txBeam
        rw [if_pos hv]
        refine Go.WideShapes.bytes_inj ?_
        show bmW ⟨a.toArray⟩ [x1, x2, x3, x4] ls ls.length = s.data.toList
        unfold bmW
        rw [List.take_length, ← h1, hb]
        have hj := join_split 32 s.data.toList
        rw [hs] at hj
        exact hj
      · cases hq
end Go.Proofs.YtajodbhbmfjmjaaGreatDoor
