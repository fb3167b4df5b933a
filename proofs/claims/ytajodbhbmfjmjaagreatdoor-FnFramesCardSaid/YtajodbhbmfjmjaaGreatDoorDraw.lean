/- What the reference draws: beams. -/
import Derived.Test.YtajodbhbmfjmjaaGreatDoorSrc2
import Derived.Test.YtajodbhbmfjmjaaGreatDoorBeam2
import Derived.Deep.AppendLies
import Derived.Deep.RegionLaw
namespace Go.Proofs.YtajodbhbmfjmjaaGreatDoor
open Go.RowKit

theorem own_push {T : TypeId} {Q g cap : Nat} {w : World} {ls : List LoadR} {a t : Int} (j : Nat) (v : Value) (h : w.ownsRow (Q + 1) T 2 (.slice (some ⟨g, 0, none⟩) (ls.length + 1) cap) (ls.length + 1) (ls.flatMap encLoad ++ [.int .i64 a, .int .i64 t])) :
    Own encLoad 2 T (w.setCell ⟨Q, j, none⟩ v) (Q + 1) (.slice (some ⟨g, 0, none⟩) (ls ++ [(⟨a, t⟩ : LoadR)]).length cap) (ls ++ [(⟨a, t⟩ : LoadR)]) := by
  have h1 : Own encLoad 2 T w (Q + 1) (.slice (some ⟨g, 0, none⟩) (ls ++ [(⟨a, t⟩ : LoadR)]).length cap) (ls ++ [(⟨a, t⟩ : LoadR)]) := by
    unfold Own; rw [List.length_append, List.flatMap_append]; simpa [encLoad] using h
  exact h1.kept (grown_set (grown_refl _ _) _ _) (.inr fun e => by
    have h2 := (h1.lt g rfl).1
    have : some g = some Q := e
    injection this with this
    omega)
/-- Loads as the draw lays them. -/
def DrawnL (at_ : Int) (ls : List LoadR) : Prop := (∀ x ∈ ls, 0 ≤ x.at_ ∧ x.at_ ≤ at_ ∧ 1 ≤ x.wt ∧ x.wt ≤ 30000) ∧ ∀ k (h : k < ls.length), (h0 : 0 < k) → (ls[k - 1]'(by omega)).at_ ≤ ls[k].at_
theorem DrawnL.nil (a : Int) : DrawnL a [] := ⟨fun x h => by simp at h, fun k h => by simp at h⟩
theorem DrawnL.push {a a' t : Int} {ls : List LoadR} (h : DrawnL a ls) (h0 : 0 ≤ a) (ha : a ≤ a') (t0 : 1 ≤ t) (t1 : t ≤ 30000) : DrawnL a' (ls ++ [⟨a', t⟩]) := by
  refine ⟨fun x hx => ?_, fun k hk hk0 => ?_⟩
  · rcases List.mem_append.1 hx with hx | hx
    · obtain ⟨p, q, r⟩ := h.1 x hx
      exact ⟨p, by omega, r⟩
    · simp at hx; subst hx; exact ⟨by show 0 ≤ a'; omega, by show a' ≤ a'; omega, t0, t1⟩
  · simp at hk
    by_cases hl : k < ls.length
    · rw [List.getElem_append_left hl, List.getElem_append_left (by omega)]
      exact h.2 k hl hk0
    · obtain rfl : k = ls.length := by omega
      rw [List.getElem_append_left (by omega), List.getElem_append_right (by omega)]
      have := (h.1 _ (List.getElem_mem (l := ls) (n := ls.length - 1) (by omega))).2.1
      simp only [Nat.sub_self, List.getElem_cons_zero]
      omega
theorem DrawnL.valid {a span wd dp wood : Int} {nm : ByteArray} {ls : List LoadR} (h : DrawnL a ls) (ha : a ≤ span) (hn : ls.length ≤ 3) (hnm : nameB nm.data.toList = true) (s1 : 1 ≤ span) (s2 : span ≤ 6000) (w1 : 20 ≤ wd) (w2 : wd ≤ 1000) (d1 : 20 ≤ dp) (d2 : dp ≤ 1000) (o1 : 1000 ≤ wood) (o2 : wood ≤ 20000) : vBeam nm span wd dp wood ls = true := by
  have hb : bmB nm span wd dp wood = true := by simp [bmB, inB, *]
  rw [vBeam_fin hb fun k hk => ?_]
  · simp; omega
  · rintro ⟨_, e | ⟨h0, e⟩⟩
    · obtain ⟨p, q, r, t⟩ := h.1 _ (List.getElem_mem hk)
      have : ldOk span ls[k].at_ ls[k].wt = true := by simp [ldOk, inB]; omega
      rw [this] at e; cases e
    · have := h.2 k hk h0
      omega
theorem info_Ld : (Tryz.prog.info? 31).map (fun i => (i.zero, i.size, i.bytes)) = some (some (.agg #[.int .i64 0, .int .i64 0]), 2, 16) := by kernel_rfl
set_option maxRecDepth 100000 in
set_option maxHeartbeats 2000000 in
theorem specl21Draw (B b : Nat) (w : World) (h : Src w B b 0) :
    Calls Tryz.prog 18 #[.pointer (some ⟨b, 0, none⟩)] w fun e w' => ∃ (nm : ByteArray) (span wd dp wood : Int) (A : Option Addr) (c : Nat) (ls : List LoadR), e = .returned (.agg #[.string nm, .int .i64 span, .int .i64 wd, .int .i64 dp, .int .i64 wood, .slice A ls.length c]) ∧
      vBeam nm span wd dp wood ls = true ∧ nm.size ≤ maxLen ∧ 50 ≤ dp ∧ dp ≤ 449 ∧ SlAt encLoad 2 w' A ls ∧ (∀ g o, A = some ⟨g, o, none⟩ → B ≤ g) ∧ (ls.length ≤ 3 ∧ ((A = none ∧ ls = []) ∨ ∃ g, A = some ⟨g, 0, none⟩)) ∧ Below B w w' := by
  have HS := hide h
  have hl := h.lt
  have h0 := h.1
  clear h
  go_enter Tryz.func18, Tryz.ntmps18
  go_wp2_with fail
  refine (srctext B b 0 (some ⟨w.heap.size + 1, 0, none⟩) _ [⟨#[110, 111, 114, 116, 104]⟩, ⟨#[115, 111, 117, 116, 104]⟩, ⟨#[109, 97, 105, 110]⟩] _ (HS.out.below (by repeat (first | with_reducible exact Below.refl _ _ | with_reducible assumption | (with_reducible refine Below.drew ?_) | (with_reducible refine below_drewN ?_ _) | ((with_reducible refine Below.alloc ?_ ?_ _); rotate_left; (focus (first | omega | (simp; omega) | simp))) | ((with_reducible refine Below.setCell ?_ ?_ _); rotate_left; (focus (first | omega | (simp; omega) | simp))) | (refine Below.trans ?_ (Below.mono (by assumption) (by first | omega | (simp; omega) | simp)))))) (by omega) ?_ ?_ (by decide) (by decide)).mono ?_
  · have hr := slat_new (enc := encS) (sz := 1) (fun _ => rfl) (w.alloc (.cells #[.string ⟨#[]⟩, .int .i64 0, .int .i64 0, .int .i64 0, .int .i64 0, .slice none 0 0] 26)) [⟨#[110, 111, 114, 116, 104]⟩, ⟨#[115, 111, 117, 116, 104]⟩, ⟨#[109, 97, 105, 110]⟩] #[.string ⟨#[110, 111, 114, 116, 104]⟩, .string ⟨#[115, 111, 117, 116, 104]⟩, .string ⟨#[109, 97, 105, 110]⟩] 9 rfl
    simpa using hr
  · intro b2 off e
    injection e with e; injection e with e _; omega
  rintro e w1 ⟨nm, rfl, hm, hS1, hb1, hg1⟩
  have hR1 : w1.heap[w.heap.size]? = some (.cells #[.string ⟨#[]⟩, .int .i64 0, .int .i64 0, .int .i64 0, .int .i64 0, .slice none 0 0] 26 (0, 0)) := (hg1.block w.heap.size (by simp; omega) (by simp; omega)).trans ((heap_alloc_old _ _ (by simp)).trans (heap_alloc_new w _))
  have hz1 := hg1.size
  simp at hz1
  have B1 := hide (show Below B w w1 from Below.trans (show Below B w _ from (by repeat (first | with_reducible exact Below.refl _ _ | with_reducible assumption | (with_reducible refine Below.drew ?_) | (with_reducible refine below_drewN ?_ _) | ((with_reducible refine Below.alloc ?_ ?_ _); rotate_left; (focus (first | omega | (simp; omega) | simp))) | ((with_reducible refine Below.setCell ?_ ?_ _); rotate_left; (focus (first | omega | (simp; omega) | simp))) | (refine Below.trans ?_ (Below.mono (by assumption) (by first | omega | (simp; omega) | simp)))))) hb1)
  have hnm : nameB nm.data.toList = true ∧ nm.size ≤ maxLen := by
    simp only [List.mem_cons, List.not_mem_nil, or_false] at hm
    rcases hm with rfl | rfl | rfl <;> exact ⟨by unfold nameB; decide, by decide⟩
  have HS1 := hide hS1
  have HR1 := hide hR1
  clear hm hS1 hb1 hg1 hR1
  go_wp2_with fail
  refine (srcPick B b 2 _ _ HS1.out (by omega) (by omega)).mono ?_
  rintro e w2 ⟨r2, rfl, p2, q2, hS2, hb2, hg2⟩
  have q2' := q2 (by omega)
  have hz2 := hg2.size
  have hR2 : w2.heap[w.heap.size]? = some (.cells #[.string ⟨#[]⟩, .int .i64 0, .int .i64 0, .int .i64 0, .int .i64 0, .slice none 0 0] 26 (0, 0)) := (hg2.block w.heap.size (by omega) (by simp; omega)).trans HR1.out
  have hB2 : B ≤ w2.heap.size := by omega
  have HD2 := hide (show DrawSt 26 B b w.heap.size w2.heap.size #[.string ⟨#[]⟩, .int .i64 0, .int .i64 0, .int .i64 0, .int .i64 0, .slice none 0 0] w (w2.alloc (.cells #[.string nm, .int .i64 (500 + r2), .int .i64 0, .int .i64 0, .int .i64 0, .slice none 0 0] 26)) 4 #[.string nm, .int .i64 (500 + r2), .int .i64 0, .int .i64 0, .int .i64 0, .slice none 0 0] from
    ⟨hS2.below (by repeat (first | with_reducible exact Below.refl _ _ | with_reducible assumption | (with_reducible refine Below.drew ?_) | (with_reducible refine below_drewN ?_ _) | ((with_reducible refine Below.alloc ?_ ?_ _); rotate_left; (focus (first | omega | (simp; omega) | simp))) | ((with_reducible refine Below.setCell ?_ ?_ _); rotate_left; (focus (first | omega | (simp; omega) | simp))) | (refine Below.trans ?_ (Below.mono (by assumption) (by first | omega | (simp; omega) | simp))))), (B1.out.trans hb2).alloc hB2 _, (heap_alloc_old _ _ (by omega)).trans hR2, heap_alloc_new w2 _⟩)
  have hQ : w2.heap.size ≠ b := by have := hS2.lt; omega
  have hR : w.heap.size ≠ b := by omega
  have hRQ : w.heap.size ≠ w2.heap.size := by omega
  clear q2 hS2 hb2 hg2 hR2 HS1 HR1 B1
  go_wp2_with fail
  refine (srcPick B b 4 _ _ HD2.out.src (by omega) (by omega)).mono ?_
  rintro e w3 ⟨r3, rfl, p3, q3, hS3, hb3, hg3⟩
  have q3' := q3 (by omega)
  have hD3 := HD2.out.call hR hQ hS3 hb3 hg3
  have c3 := hD3.cell 2 _ rfl
  have f3 := hD3.froz 2
  have HD3 := hide (show DrawSt 26 B b w.heap.size w2.heap.size #[.string ⟨#[]⟩, .int .i64 0, .int .i64 0, .int .i64 0, .int .i64 0, .slice none 0 0] w (w3.setCell ⟨w2.heap.size, 2, none⟩ (.int .i64 (50 + r3))) 6 #[.string nm, .int .i64 (500 + r2), .int .i64 (50 + r3), .int .i64 0, .int .i64 0, .slice none 0 0] from hD3.set hQ hRQ hB2 2 (.int .i64 (50 + r3)))
  clear q3 hS3 hb3 hg3 hD3 HD2
  go_wp2_with fail
  refine (srcPick B b 6 _ _ HD3.out.src (by omega) (by omega)).mono ?_
  rintro e w4 ⟨r4, rfl, p4, q4, hS4, hb4, hg4⟩
  have q4' := q4 (by omega)
  have hD4 := HD3.out.call hR hQ hS4 hb4 hg4
  have c4 := hD4.cell 3 _ rfl
  have f4 := hD4.froz 3
  have HD4 := hide (show DrawSt 26 B b w.heap.size w2.heap.size #[.string ⟨#[]⟩, .int .i64 0, .int .i64 0, .int .i64 0, .int .i64 0, .slice none 0 0] w (w4.setCell ⟨w2.heap.size, 3, none⟩ (.int .i64 (50 + r4))) 8 #[.string nm, .int .i64 (500 + r2), .int .i64 (50 + r3), .int .i64 (50 + r4), .int .i64 0, .slice none 0 0] from hD4.set hQ hRQ hB2 3 (.int .i64 (50 + r4)))
  clear q4 hS4 hb4 hg4 hD4 HD3
  go_wp2_with fail
  have hA4 := HD4.out.below (w' := (w4.setCell ⟨w2.heap.size, 3, none⟩ (.int .i64 (50 + r4))).alloc (.cells #[.int .i64 8000, .int .i64 11000, .int .i64 13000] 2)) (by repeat (first | with_reducible exact Below.refl _ _ | with_reducible assumption | (with_reducible refine Below.drew ?_) | (with_reducible refine below_drewN ?_ _) | ((with_reducible refine Below.alloc ?_ ?_ _); rotate_left; (focus (first | omega | (simp; omega) | simp))) | ((with_reducible refine Below.setCell ?_ ?_ _); rotate_left; (focus (first | omega | (simp; omega) | simp))) | (refine Below.trans ?_ (Below.mono (by assumption) (by first | omega | (simp; omega) | simp)))))
  have HA4 := hide hA4
  have hl4 : w2.heap.size < w4.heap.size := World.block_lt_of_cell? _ _ c4
  have hb4' : b < w4.heap.size := by have := HD4.out.src.lt; simpa [World.setCell] using this
  refine (srcamong B b 8 (some ⟨w4.heap.size, 0, none⟩) _ [8000, 11000, 13000] _ HA4.out.src (by omega) ?_ ?_ (by decide) (by decide)).mono ?_
  · have hr := slat_new (enc := encI) (sz := 1) (fun _ => rfl) (w4.setCell ⟨w2.heap.size, 3, none⟩ (.int .i64 (50 + r4))) [8000, 11000, 13000] #[.int .i64 8000, .int .i64 11000, .int .i64 13000] 2 rfl
    simpa [World.setCell] using hr
  · intro b2 off e
    injection e with e; injection e with e _; omega
  rintro e w5 ⟨wood, rfl, hm, hS5, hb5, hg5⟩
  have hw : 1000 ≤ wood ∧ wood ≤ 20000 := by
    simp only [List.mem_cons, List.not_mem_nil, or_false] at hm
    omega
  have hD5 := HA4.out.call hR hQ hS5 hb5 hg5
  have c5 := hD5.cell 4 _ rfl
  have f5 := hD5.froz 4
  have HD5 := hide (show DrawSt 26 B b w.heap.size w2.heap.size #[.string ⟨#[]⟩, .int .i64 0, .int .i64 0, .int .i64 0, .int .i64 0, .slice none 0 0] w (w5.setCell ⟨w2.heap.size, 4, none⟩ (.int .i64 wood)) 10 #[.string nm, .int .i64 (500 + r2), .int .i64 (50 + r3), .int .i64 (50 + r4), .int .i64 wood, .slice none 0 0] from hD5.set hQ hRQ hB2 4 (.int .i64 wood))
  clear hm hS5 hb5 hg5 hD5 HD4 hA4 HA4
  go_wp2_with fail
  refine (srcPick B b 10 _ _ HD5.out.src (by omega) (by omega)).mono ?_
  rintro e w6 ⟨r6, rfl, p6, q6, hS6, hb6, hg6⟩
  have q6' := q6 (by omega)
  have HD6 := hide (HD5.out.call hR hQ hS6 hb6 hg6)
  clear q6 hS6 hb6 hg6 HD5 c3 c4 c5 f3 f4 f5
  go_wp2_with fail
  obtain ⟨k6, rfl⟩ := Int.eq_ofNat_of_zero_le p6
  go_loopw [5, 4] (fun v t wr => ∃ (k : Nat) (at_ : Int) (ls : List LoadR) (A : Option Addr) (c : Nat), v = .int .i64 k ∧ t = .int .i64 at_ ∧ k + ls.length ≤ 3 ∧ 0 ≤ at_ ∧ at_ ≤ 500 + r2 ∧ Hid (DrawnL at_ ls) ∧ Hid (DrawSt 26 B b w.heap.size w2.heap.size #[.string ⟨#[]⟩, .int .i64 0, .int .i64 0, .int .i64 0, .int .i64 0, .slice none 0 0] w wr (12 + 4 * ls.length) #[.string nm, .int .i64 (500 + r2), .int .i64 (50 + r3), .int .i64 (50 + r4), .int .i64 wood, .slice A ls.length c]) ∧ Hid (Own encLoad 2 31 wr (w2.heap.size + 1) (.slice A ls.length c) ls)) (fun v _ _ => (intOf v).toNat)
  case atStart => exact ⟨k6, 0, [], none, 0, rfl, rfl, by simp; omega, by omega, by omega, DrawnL.nil 0, HD6, Own.nil⟩
  case round =>
    obtain ⟨k, at_, ls, A, c, rfl, rfl, hk, a0, a1, HL, HD, HO⟩ := hrel
    have hlt := heap_lt HD.out.q
    by_cases h : 0 < k
    · have c1 := HD.out.cell 1 _ rfl
      go_wp2_with fail
      refine (srcPick B b (12 + 4 * ls.length) _ _ HD.out.src (by omega) (by omega)).mono ?_
      rintro e w7 ⟨r7, rfl, p7, q7, hS7, hb7, hg7⟩
      have q7' := q7 (by omega)
      have HD7 := hide (HD.out.call hR hQ hS7 hb7 hg7)
      have HO7 := hide (Own.kept HO.out hg7 (by
        cases hv : (Value.slice A ls.length c).ownBlock with
        | none => exact .inl rfl
        | some g => exact .inr fun e => by injection e with e; have := (HO.out.lt g hv).1; omega))
      have hlt7 := heap_lt HD7.out.q
      have g7 := HD7.out.cell 5 _ rfl
      have ff7 := HD7.out.froz 5
      clear q7 hS7 hb7 hg7 HD HO c1
      go_wp2_with fail
      have HD7d := hide (HD7.out.below (w' := w7.drew) (Below.refl _ _).drew)
      have HO7d := hide (Own.below (w' := w7.drew) HO7.out (Below.refl _ _).drew)
      have HS7d := hide (HD7d.out.src.more (N' := 14 + 4 * ls.length) (by omega))
      have HNE : ∀ x : Nat, x ≤ w2.heap.size → some x ≠ (Value.slice A ls.length c).ownBlock := fun x hx e => by
        have := (HO7.out.lt x e.symm).1; omega
      have HNQ := hide (HNE w2.heap.size (by omega))
      have HNb := hide (HNE b (by omega))
      have HNR := hide (HNE w.heap.size (by omega))
      have HNA := hide HNE
      have hbQ : b ≤ w2.heap.size := by omega
      have hRQ2 : w.heap.size ≤ w2.heap.size := by omega
      clear HNE HD7 HO7
      obtain ⟨i0, hi0, hz0, hz1', hz2'⟩ := info_parts info_Ld
      have hlt7d : w2.heap.size < w7.drew.heap.size := hlt7
      have g7d : w7.drew.cell? ⟨w2.heap.size, 5, none⟩ = some (.slice A ls.length c) := g7
      have g7f : w7.drew.frozen? ⟨w2.heap.size, 5, none⟩ = false := ff7
      go_region_law (first
          | (refine step_append_lies _ (by rfl) _ _ _ (by rfl) (w2.heap.size + 1) 31 i0 _ 2 16 Tryz.underlying24 hi0 hz0 hz1' hz2' rfl (by omega) (.slice A ls.length c) ls.length (ls.flatMap encLoad) (by rfl) (Own.below HO8.out (by repeat (first | with_reducible exact Below.refl _ _ | with_reducible assumption | (with_reducible refine Below.drew ?_) | (with_reducible refine below_drewN ?_ _) | ((with_reducible refine Below.alloc ?_ ?_ _); rotate_left; (focus (first | omega | (simp; omega) | simp))) | ((with_reducible refine Below.setCell ?_ ?_ _); rotate_left; (focus (first | omega | (simp; omega) | simp))) | (refine Below.trans ?_ (Below.mono (by assumption) (by first | omega | (simp; omega) | simp)))))) ⟨w8.heap.size, 0, none⟩ 1 1 [.int .i64 (at_ + r7), .int .i64 (1 + r8)] (by rfl) (by rfl) (World.news_of_block (cs := #[.int .i64 (at_ + r7), .int .i64 (1 + r8)]) (t := 31) (fr := (0, 0)) (heap_alloc_new w8 _)) (by simp [Value.oneCell']) (by omega) (by unfold maxLen; omega) (by omega) (by simp; omega) (w8.heap.size + 1) (by simp) ?_; intro gg cap w9 hown9 hgrow hat hlt9; have g9 := (hgrow.cell_far ⟨w2.heap.size, 5, none⟩ (by simp; omega) HNQ.out).trans ((((Below.refl w8.heap.size w8).alloc (Nat.le_refl _) _).cell (p := ⟨w2.heap.size, 5, none⟩) hlt8).trans g8); have f9 := (hgrow.frozen_far ⟨w2.heap.size, 5, none⟩ (by simp; omega) HNQ.out).trans ((((Below.refl w8.heap.size w8).alloc (Nat.le_refl _) _).frozen (p := ⟨w2.heap.size, 5, none⟩) hlt8).trans f8))
          | (go_simp; go_at_call 40; refine (srcPick B b (14 + 4 * ls.length) _ w7.drew HS7d.out (by omega) (by omega)).mono ?_; rintro e w8 ⟨r8, rfl, p8, q8, hS8, hb8, hg8⟩; have q8' := q8 (by omega); have hw8 : IntKind.i64.wrap (1 + r8) = 1 + r8 := IntWalk.i64_in _ (by omega); have HD8 := hide (HD7d.out.call hR hQ hS8 hb8 hg8); have HO8 := hide (Own.kept HO7d.out hg8 (.inr (Ne.symm HNb.out))); have hlt8 := heap_lt HD8.out.q; have g8 : w8.cell? ⟨w2.heap.size, 5, none⟩ = some (.slice A ls.length c) := HD8.out.cell 5 _ rfl; have f8 := HD8.out.froz 5))
      all_goals
        have HP := hide (HL.out.push (a' := at_ + r7) (t := 1 + r8) a0 (by omega) (by omega) (by omega))
        have hD9 := HD8.out.pushed hgrow HNA.out hbQ hRQ2
        have hO9 := own_push 5 (.slice (some ⟨gg, 0, none⟩) (ls.length + 1) cap) hown9
        have HD9 := hide (hD9.set hQ hRQ hB2 5 (.slice (some ⟨gg, 0, none⟩) (ls.length + 1) cap))
        have HO9 := hide hO9
        clear hD9 hO9 hown9 hgrow hat g9 f9 HO8 HD8
        go_wp2_with fail
        go_roundw
        case rel => exact ⟨k - 1, at_ + r7, ls ++ [⟨at_ + r7, 1 + r8⟩], some ⟨gg, 0, none⟩, cap, by go_num, rfl, by simp; omega, by omega, by omega, HP, by
          have e : 12 + 4 * (ls ++ [(⟨at_ + r7, 1 + r8⟩ : LoadR)]).length = 14 + 4 * ls.length + 2 := by simp; omega
          rw [e, List.length_append]
          exact HD9, HO9⟩
        case measure => simp [intOf]; omega
    · have HN := hide (show vBeam nm (500 + r2) (50 + r3) (50 + r4) wood ls = true from HL.out.valid a1 (by omega) hnm.1 (by omega) (by omega) (by omega) (by omega) (by omega) (by omega) (by omega) (by omega))
      have HG := hide (show ∀ g o, A = some ⟨g, o, none⟩ → B ≤ g from fun g o e => by
        subst e
        have := (HO.out.lt g rfl).1
        omega)
      have HA := hide (fun W (hg : wr.grownBy W (some w.heap.size)) => SlAt.grown (Own.at_ (enc := encLoad) (sz := 2) (fun _ => rfl) HO.out) hg (fun g o e q => by
        injection q with q
        subst e
        have := (HO.out.lt g rfl).1
        omega))
      have e0 := HD.out.cell 0 _ rfl
      have e1 := HD.out.cell 1 _ rfl
      have e2 := HD.out.cell 2 _ rfl
      have e3 := HD.out.cell 3 _ rfl
      have e4 := HD.out.cell 4 _ rfl
      have e5 := HD.out.cell 5 _ rfl
      have t0 := HD.out.rcell 0 _ rfl
      have t1 := HD.out.rcell 1 _ rfl
      have t2 := HD.out.rcell 2 _ rfl
      have t3 := HD.out.rcell 3 _ rfl
      have t4 := HD.out.rcell 4 _ rfl
      have t5 := HD.out.rcell 5 _ rfl
      have y0 := HD.out.rfroz 0
      have y1 := HD.out.rfroz 1
      have y2 := HD.out.rfroz 2
      have y3 := HD.out.rfroz 3
      have y4 := HD.out.rfroz 4
      have y5 := HD.out.rfroz 5
      have HBL := hide HD.out.bel
      have hBR : B ≤ w.heap.size := by omega
      have HKI := hide (show (ls.length ≤ 3 ∧ ((A = none ∧ ls = []) ∨ ∃ g, A = some ⟨g, 0, none⟩)) from ⟨by omega, by
        rcases HO.out.2 with ⟨e, _⟩ | ⟨g, cap, cur, e, _⟩
        · injection e with e1 e2 _
          exact .inl ⟨e1, List.eq_nil_of_length_eq_zero e2⟩
        · injection e with e1 _ _
          exact .inr ⟨g, e1⟩⟩)
      clear HL HO
      go_wp2_with fail
      refine bodyPost_ret (v := .agg #[.string nm, .int .i64 (500 + r2), .int .i64 (50 + r3), .int .i64 (50 + r4), .int .i64 wood, .slice A ls.length c]) (by simp [results, Tryz.results18, go_sem, t0, t1, t2, t3, t4, t5]) rfl ⟨nm, _, _, _, _, A, c, ls, rfl, HN.out, hnm.2, by omega, by omega, HA.out _ ?_, HG.out, HKI.out, ?_⟩
      · iterate 6 (refine grown_set ?_ _ _)
        exact grown_refl _ _
      · iterate 6 ((with_reducible refine Below.setCell ?_ ?_ _); rotate_left; (focus exact hBR))
        exact HBL.out
end Go.Proofs.YtajodbhbmfjmjaaGreatDoor
