/- The text of a beam, on both sides. Conditions: the beam has at most 1048576 loads; its name is no longer than a Go string can be; its loads lie in memory; the library's table of powers of ten is laid. -/
import Derived.Test.YtphlejphkipbpaaDoorTexts
import Derived.Test.YtphlejphkipbpaaDoorBeam2
import Derived.Deep.AppendLies
namespace Go.Proofs.YtphlejphkipbpaaDoor
open Go.RowKit Go.Lib

theorem own_lit {α : Type} {enc : α → List Value} {T : TypeId} {B : Nat} (w : World) (xs : List α) (cs : Array Value) (hB : B ≤ w.heap.size) (he : ∀ x, (enc x).length = 1) (hc : cs.toList = xs.flatMap enc) (hm : xs.length ≤ maxLen) :
    Own enc 1 T (w.alloc (.cells cs T)) B (.slice (some ⟨w.heap.size, 0, none⟩) xs.length xs.length) xs := by
  have hl := flat_length he xs
  refine ⟨hl, .inr ⟨w.heap.size, xs.length, cs, rfl, hB, heap_alloc_new w _, Nat.le_refl _, hm, ?_, ?_⟩⟩
  · rw [← Array.length_toList, hc]; exact hl
  · rw [hc, ← hl, List.take_length]
set_option maxRecDepth 100000 in
/-- An append of one string, as a step of a region that draws its order. -/
theorem step_appStr {w : World} {ops : Array Oper} {o : Oper} {a : Act} {K : Act → World → Prop} {Q : Exit → Act → World → Prop} {E : Prop} (hgd : o.guard = none) (s x : Operand) (ho : o.op = .call { callee := .builtin .append, args := #[s, x], argTypes := #[115, 115] }) (B : Nat) {v : Value} {xs : List ByteArray} (hs : a.eval s = v)
    (hown : OwnS w B v xs) {y : ByteArray} (hx : a.eval x = .slice (some ⟨w.heap.size, 0, none⟩) 1 1) (hn : xs.length ≤ 1048576) (hB : B ≤ w.heap.size)
    (h : ∀ (A : Option Addr) (c : Nat) (w' : World), OwnS w' B (.slice A (xs.length + 1) c) (xs ++ [y]) → Below B (w.alloc (.cells #[.string y] 9)) w' → (w.alloc (.cells #[.string y] 9)).grownBy w' v.ownBlock → K (a.put o.dst (.slice A (xs.length + 1) c)) w') : if Region.wanted o (yielded ops a.tmps) = true then Oper.wp Tryd.prog o a (w.alloc (.cells #[.string y] 9)) K Q else E := by
  obtain ⟨i0, hi, hz0, hz1, hz2⟩ := info_parts info_str
  have hb0 : Below w.heap.size w (w.alloc (.cells #[.string y] 9)) := (Below.refl _ _).alloc (Nat.le_refl _) _
  have hO := hown.below hb0
  refine step_append_lies _ hgd s x _ ho B 9 i0 _ 1 16 Tryd.underlying115 hi hz0 hz1 hz2 rfl (by omega) v xs.length (xs.flatMap encStr) hs hO ⟨w.heap.size, 0, none⟩ 1 1 [.string y] hx rfl (World.news_of_block (cs := #[.string y]) (heap_alloc_new w _)) (by simp [Value.oneCell']) (by omega) (by unfold maxLen; omega) (by omega) (by simp; omega) _ rfl ?_
  intro g cap w' h1 h2 _ _
  refine h _ cap w' ?_ (Below.grown (Below.refl _ _) h2 (by simp; omega) fun k hk => (Own.lt hO k hk).1) h2
  unfold OwnS Own
  rw [List.length_append, List.flatMap_append]
  simpa using h1

/-- A load as text. -/
def ldW (x : LoadR) : List UInt8 := itoa x.wt ++ [64] ++ itoa x.at_
/-- A beam as text, with its first k loads. -/
def bmW (nm : ByteArray) (l4 : List Int) (ls : List LoadR) (k : Nat) : List UInt8 := Lib.join (nm.data.toList :: rowText l4 :: (ls.take k).map ldW) [32]
theorem bmW_zero (nm : ByteArray) (l4 : List Int) (ls : List LoadR) : (⟨(bmW nm l4 ls 0).toArray⟩ : ByteArray) = twoW nm l4 := by
  unfold bmW twoW
  rw [List.take_zero, List.map_nil, join_cons2, Lib.join_one]
  exact Go.WideShapes.bytes_inj (by simp)
theorem bmW_succ (nm : ByteArray) (l4 : List Int) (ls : List LoadR) (k : Nat) (h : k < ls.length) : bmW nm l4 ls (k + 1) = bmW nm l4 ls k ++ [32] ++ ldW ls[k] := by
  unfold bmW
  rw [List.take_succ_eq_append_getElem h, List.map_append, List.map_singleton]
  exact join_snoc [32] (ldW ls[k]) (nm.data.toList :: rowText l4 :: (ls.take k).map ldW) (by simp)
theorem str_load (K a b : List UInt8) : (⟨K.toArray⟩ : ByteArray) ++ (((⟨#[32]⟩ ++ ⟨a.toArray⟩) ++ ⟨#[64]⟩) ++ ⟨b.toArray⟩) = ⟨(K ++ [32] ++ (a ++ [64] ++ b)).toArray⟩ := Go.WideShapes.bytes_inj (by simp)
theorem str_ld (a b : List UInt8) : ((⟨a.toArray⟩ : ByteArray) ++ ⟨#[64]⟩) ++ ⟨b.toArray⟩ = ⟨(a ++ [64] ++ b).toArray⟩ := Go.WideShapes.bytes_inj (by simp)
theorem ldW_len {x : LoadR} (h0 : -9223372036854775808 ≤ x.wt ∧ x.wt ≤ 9223372036854775807) (h1 : -9223372036854775808 ≤ x.at_ ∧ x.at_ ≤ 9223372036854775807) : (ldW x).length ≤ 41 := by
  have := itoa_length_le h0.1 h0.2
  have := itoa_length_le h1.1 h1.2
  unfold ldW
  simp
  omega
theorem bmW_len {nm : ByteArray} {l4 : List Int} {ls : List LoadR} (h4 : l4.length = 4) (hs : nm.size ≤ 10) (hx : ∀ x ∈ l4, -9223372036854775808 ≤ x ∧ x ≤ 9223372036854775807) (hl : ∀ x ∈ ls, (-9223372036854775808 ≤ x.at_ ∧ x.at_ ≤ 9223372036854775807) ∧ -9223372036854775808 ≤ x.wt ∧ x.wt ≤ 9223372036854775807) (k : Nat) (hk : k ≤ ls.length) : (bmW nm l4 ls k).length ≤ 99 + 42 * k := by
  induction k with
  | zero =>
    have := rowText_len (xs := l4) (by rintro rfl; simp at h4) hx
    unfold bmW
    rw [List.take_zero, List.map_nil, join_cons2, Lib.join_one]
    simp
    omega
  | succ k ih =>
    have h := hl ls[k] (List.getElem_mem (by omega))
    have := ldW_len h.2 h.1
    have := ih (by omega)
    rw [bmW_succ _ _ _ _ (by omega)]
    simp
    omega
/-- The text of a beam, empty if it is not valid. -/
noncomputable def txBeam (nm : ByteArray) (span wd dp wood : Int) (ls : List LoadR) : ByteArray := if vBeam nm span wd dp wood ls = true then ⟨(bmW nm [span, wd, dp, wood] ls ls.length).toArray⟩ else ByteArray.empty
theorem vBeam_vals {nm : ByteArray} {span wd dp wood : Int} {ls : List LoadR} (h : vBeam nm span wd dp wood ls = true) : nm.size ≤ 10 ∧ (∀ x ∈ [span, wd, dp, wood], -1000000000000 ≤ x ∧ x ≤ 1000000000000) ∧ ls.length ≤ 8 ∧ ∀ x ∈ ls, (-9223372036854775808 ≤ x.at_ ∧ x.at_ ≤ 9223372036854775807) ∧ -9223372036854775808 ≤ x.wt ∧ x.wt ≤ 9223372036854775807 := by
  have h2 := vBeam_true h
  obtain ⟨a, b, c, d, e, f, g, _⟩ := h2
  exact ⟨name_size a, by simp; omega, g, fun x hx => by have := f x hx; omega⟩

set_option maxRecDepth 100000 in
set_option maxHeartbeats 2000000 in
theorem specl21Text (bl : Nat) (nm : ByteArray) (span wd dp wood : Int) (A : Option Addr) (c : Nat) (ls : List LoadR) (w : World) (h : SlAt encLoad 2 w A ls) (hn : ls.length ≤ 1048576) (c0 : w.cell? ⟨bl, 0, none⟩ = some (.string nm)) (c1 : w.cell? ⟨bl, 1, none⟩ = some (.int .i64 span)) (c2 : w.cell? ⟨bl, 2, none⟩ = some (.int .i64 wd)) (c3 : w.cell? ⟨bl, 3, none⟩ = some (.int .i64 dp)) (c4 : w.cell? ⟨bl, 4, none⟩ = some (.int .i64 wood)) (c5 : w.cell? ⟨bl, 5, none⟩ = some (.slice A ls.length c)) (hs : nm.size ≤ 10) (hx : ∀ x ∈ [span, wd, dp, wood], -9223372036854775808 ≤ x ∧ x ≤ 9223372036854775807)
    (hl : ∀ x ∈ ls, (-9223372036854775808 ≤ x.at_ ∧ x.at_ ≤ 9223372036854775807) ∧ -9223372036854775808 ≤ x.wt ∧ x.wt ≤ 9223372036854775807) :
    Calls Tryd.prog 75 #[.pointer (some ⟨bl, 0, none⟩)] w fun e w' => e = .returned (.string ⟨(bmW nm [span, wd, dp, wood] ls ls.length).toArray⟩) ∧ Below w.heap.size w w' := by
  have hbl := World.block_lt_of_cell? w _ c0
  simp only at hbl
  have HA := hide h
  have HS := hide fun W : World => slat_litd W [span, wd, dp, wood]
  have hrl := rowText_len (xs := [span, wd, dp, wood]) (by simp) hx
  simp only [List.length_cons, List.length_nil] at hrl
  have HX := hide hx
  have HL := hide hl
  have HW := hide (fun k => bmW_len (nm := nm) (l4 := [span, wd, dp, wood]) (ls := ls) rfl hs hx hl k)
  have HZ := hide (bmW_zero nm [span, wd, dp, wood] ls)
  have HK := hide (bmW_succ nm [span, wd, dp, wood] ls)
  have g1 : ¬ 9223372036854775807 < nm.size + 1 := by omega
  have g2 : ¬ 9223372036854775807 < nm.size + 1 + (rowText [span, wd, dp, wood]).length := by omega
  have P0 : ∀ w', Below w.heap.size w w' → w'.cell? ⟨bl, 0, none⟩ = some (.string nm) := fun w' h => (h.cell (p := ⟨bl, 0, none⟩) hbl).trans c0
  have P1 : ∀ w', Below w.heap.size w w' → w'.cell? ⟨bl, 1, none⟩ = some (.int .i64 span) := fun w' h => (h.cell (p := ⟨bl, 1, none⟩) hbl).trans c1
  have P2 : ∀ w', Below w.heap.size w w' → w'.cell? ⟨bl, 2, none⟩ = some (.int .i64 wd) := fun w' h => (h.cell (p := ⟨bl, 2, none⟩) hbl).trans c2
  have P3 : ∀ w', Below w.heap.size w w' → w'.cell? ⟨bl, 3, none⟩ = some (.int .i64 dp) := fun w' h => (h.cell (p := ⟨bl, 3, none⟩) hbl).trans c3
  have P4 : ∀ w', Below w.heap.size w w' → w'.cell? ⟨bl, 4, none⟩ = some (.int .i64 wood) := fun w' h => (h.cell (p := ⟨bl, 4, none⟩) hbl).trans c4
  have P5 : ∀ w', Below w.heap.size w w' → w'.cell? ⟨bl, 5, none⟩ = some (.slice A ls.length c) := fun w' h => (h.cell (p := ⟨bl, 5, none⟩) hbl).trans c5
  have HP5 := hide P5
  clear hx hl h hrl c0 c1 c2 c3 c4 c5 P5
  go_enter Tryd.func75, Tryd.ntmps75
  go_wp2_with fail
  go_region_held3 (fun w' => Below w.heap.size w w')
    ((first | exact (Below.refl _ _).drew | exact Below.trans (by assumption) (hbK.mono (Below.size (by assumption : Below w.heap.size w _))) | exact ((Below.refl _ _).alloc (Nat.le_refl _) _).drew | exact (Below.alloc (by assumption) (Below.size (by assumption)) _) | exact (by repeat (first | with_reducible exact Below.refl _ _ | with_reducible assumption | (with_reducible refine Below.drew ?_) | (with_reducible refine below_drewN ?_ _) | ((with_reducible refine Below.alloc ?_ ?_ _); rotate_left; (focus (first | omega | (simp; omega) | simp))) | ((with_reducible refine Below.setCell ?_ ?_ _); rotate_left; (focus (first | omega | (simp; omega) | simp))) | (refine Below.trans ?_ (Below.mono (by assumption) (by first | omega | (simp; omega) | simp)))))))
    (first | (go_at_call 103; go_loud (refine (specl01List _ 4 [span, wd, dp, wood] _ (HS.out _) (by simp) HX.out).mono ?_; rintro e1 wK ⟨rfl, hbK⟩)))
  all_goals
    have hbE : Below w.heap.size w wK := by first | assumption | (go_split_ands; assumption)
    have HBE := hide hbE
    clear hbE P0 P1 P2 P3 P4 g1 g2
    go_wp2_with fail
    go_loopw [4, 3] (fun v o wr => ∃ k : Nat, v = .int .i64 k ∧ o = .string ⟨(bmW nm [span, wd, dp, wood] ls k).toArray⟩ ∧ k ≤ ls.length ∧ Below w.heap.size w wr) (fun v _ _ => ls.length - (intOf v).toNat)
    case atStart => exact ⟨0, rfl, by rw [HZ.out]; rfl, by omega, HBE.out⟩
    case round =>
      obtain ⟨k, rfl, rfl, hk, hb⟩ := hrel
      have q5 := HP5.out _ hb
      have hz := hb.size
      have HB := hide hb
      by_cases hlt : k < ls.length
      · obtain ⟨b, off, rfl, hbl2, hc⟩ := HA.out.below hb k hlt
        have hc0 := hc 0 _ rfl
        have hc1 := hc 1 _ rfl
        simp only [Nat.add_zero] at hc0
        have hi := HL.out ls[k] (List.getElem_mem hlt)
        have hw := HW.out k hk
        have HKk := hide (HK.out k hlt)
        clear hc hb
        generalize ls[k] = x at *
        obtain ⟨x0, x1⟩ := x
        simp only at hc0 hc1 hi
        obtain ⟨i0, i1⟩ := hi
        have HKs := hide (show (⟨(bmW nm [span, wd, dp, wood] ls (k + 1)).toArray⟩ : ByteArray) = ⟨(bmW nm [span, wd, dp, wood] ls k).toArray⟩ ++ (((⟨#[32]⟩ ++ ⟨(itoa x1).toArray⟩) ++ ⟨#[64]⟩) ++ ⟨(itoa x0).toArray⟩) from by rw [HKk.out, str_load]; rfl)
        clear HKk
        have s0 := itoa_length_le i0.1 i0.2
        have s1 := itoa_length_le i1.1 i1.2
        obtain ⟨i00, i01⟩ := i0
        obtain ⟨i10, i11⟩ := i1
        have hbl3 : bl < wr.heap.size := by omega
        have u1 : ¬ 9223372036854775807 < 1 + (itoa x1).length := by omega
        have u2 : ¬ 9223372036854775807 < 1 + (itoa x1).length + 1 := by omega
        have u3 : ¬ 9223372036854775807 < 1 + (itoa x1).length + 1 + (itoa x0).length := by omega
        have u4 : ¬ 9223372036854775807 < (bmW nm [span, wd, dp, wood] ls k).length + (1 + (itoa x1).length + 1 + (itoa x0).length) := by omega
        go_wp2_with fail
        refine wp_region_kept (by kernel_rfl) (by kernel_rfl) ?_
        intro gc gf gz
        repeat (go_big_quiet_step ((go_at_call 111; exact Calls.kept (specl01Dec _ _ (by assumption) (by assumption)))))
        refine wpQuiet_nil ?_
        intro w1 hw'
        obtain ⟨⟨_, hb1⟩, rfl⟩ := hw'
        clear gc gf gz
        try dsimp only
        have fs1 := hb1.size
        go_wp2_with fail
        go_roundw
        case rel => exact ⟨k + 1, by go_num, by rw [HKs.out], by omega, HB.out.trans (hb1.mono hz)⟩
        case measure => simp [intOf]; omega
      · obtain rfl : k = ls.length := by omega
        go_wp2_with fail
        go_ret
        exact ⟨rfl, hb⟩
set_option maxRecDepth 100000 in
theorem specBeamText (nm : ByteArray) (span wd dp wood : Int) (A : Option Addr) (c : Nat) (ls : List LoadR) (w : World) (h : SlAt encLoad 2 w A ls) (hn : ls.length ≤ 1048576) (hs : nm.size ≤ maxLen) :
    Calls Tryd.prog 30 #[.agg #[.string nm, .int .i64 span, .int .i64 wd, .int .i64 dp, .int .i64 wood, .slice A ls.length c]] w fun e w' => e = .returned (.string (txBeam nm span wd dp wood ls)) ∧ Below w.heap.size w w' := by
  have HX := hide (h.below ((Below.refl _ _).alloc (Nat.le_refl _) (.cells #[.string nm, .int .i64 span, .int .i64 wd, .int .i64 dp, .int .i64 wood, .slice A ls.length c] 56)))
  clear h
  cases hv : vBeam nm span wd dp wood ls
  · have e : Hid (txBeam nm span wd dp wood ls = ByteArray.empty) := by unfold Hid txBeam; rw [if_neg (by rw [hv]; decide)]
    go_enter Tryd.func30, Tryd.ntmps30
    go_wp2_with fail
    refine (specl21Ok nm span wd dp wood A c ls _ _ HX.out hn hs (by simp) (by simp) (by simp) (by simp) (by simp) (by simp)).mono ?_
    rintro e w1 ⟨rfl, hb1⟩
    obtain ⟨fcb1, ffb1, fzb1⟩ := bfacts hb1 (by first | exact Nat.le_refl _ | omega | (simp; omega) | simp); have fsb1 := hb1.size; try simp at fcb1 ffb1 fzb1 fsb1 hb1
    go_wp2_with fail
    go_ret
    exact ⟨ret_st e.out.symm, (by repeat (first | with_reducible exact Below.refl _ _ | with_reducible assumption | (with_reducible refine Below.drew ?_) | (with_reducible refine below_drewN ?_ _) | ((with_reducible refine Below.alloc ?_ ?_ _); rotate_left; (focus (first | omega | (simp; omega) | simp))) | ((with_reducible refine Below.setCell ?_ ?_ _); rotate_left; (focus (first | omega | (simp; omega) | simp))) | (refine Below.trans ?_ (Below.mono (by assumption) (by first | omega | (simp; omega) | simp)))))⟩
  · have e : Hid (txBeam nm span wd dp wood ls = ⟨(bmW nm [span, wd, dp, wood] ls ls.length).toArray⟩) := by unfold Hid txBeam; rw [if_pos hv]
    have HQ := hide (vBeam_vals hv)
    go_enter Tryd.func30, Tryd.ntmps30
    go_wp2_with fail
    refine (specl21Ok nm span wd dp wood A c ls _ _ HX.out hn hs (by simp) (by simp) (by simp) (by simp) (by simp) (by simp)).mono ?_
    rintro e1 w1 ⟨rfl, hb1⟩
    have HX1 := hide (HX.out.below hb1)
    obtain ⟨fcb1, ffb1, fzb1⟩ := bfacts hb1 (by first | exact Nat.le_refl _ | omega | (simp; omega) | simp); have fsb1 := hb1.size; try simp at fcb1 ffb1 fzb1 fsb1 hb1
    have hz1 : w.heap.size < w1.heap.size := by (try simp at fsb1); omega
    have p0 : w1.cell? ⟨w.heap.size, 0, none⟩ = some (.string nm) := by rw [fcb1 _ _ (by simp)]; simp
    have p1 : w1.cell? ⟨w.heap.size, 1, none⟩ = some (.int .i64 span) := by rw [fcb1 _ _ (by simp)]; simp
    have p2 : w1.cell? ⟨w.heap.size, 2, none⟩ = some (.int .i64 wd) := by rw [fcb1 _ _ (by simp)]; simp
    have p3 : w1.cell? ⟨w.heap.size, 3, none⟩ = some (.int .i64 dp) := by rw [fcb1 _ _ (by simp)]; simp
    have p4 : w1.cell? ⟨w.heap.size, 4, none⟩ = some (.int .i64 wood) := by rw [fcb1 _ _ (by simp)]; simp
    have p5 : w1.cell? ⟨w.heap.size, 5, none⟩ = some (.slice A ls.length c) := by rw [fcb1 _ _ (by simp)]; simp
    have HB1 := hide (show Below w.heap.size w w1 from (by repeat (first | with_reducible exact Below.refl _ _ | with_reducible assumption | (with_reducible refine Below.drew ?_) | (with_reducible refine below_drewN ?_ _) | ((with_reducible refine Below.alloc ?_ ?_ _); rotate_left; (focus (first | omega | (simp; omega) | simp))) | ((with_reducible refine Below.setCell ?_ ?_ _); rotate_left; (focus (first | omega | (simp; omega) | simp))) | (refine Below.trans ?_ (Below.mono (by assumption) (by first | omega | (simp; omega) | simp))))))
    clear hb1 fcb1 ffb1 fzb1 fsb1
    go_wp2_with fail
    refine (specl21Text _ nm span wd dp wood A c ls _ HX1.out hn p0 p1 p2 p3 p4 p5 HQ.out.1 (fun x hx => by have := HQ.out.2.1 x hx; omega) HQ.out.2.2.2).mono ?_
    rintro e2 w2 ⟨rfl, hb2⟩
    have HB2 := hide (HB1.out.trans (hb2.mono HB1.out.size))
    clear hb2
    go_wp2_with fail
    go_ret
    exact ⟨ret_st e.out.symm, HB2.out⟩
end Go.Proofs.YtphlejphkipbpaaDoor
