/- The reference's greatest number of swings. -/
import Derived.Test.YtjklhacffdhgaaaMoJ
namespace Go.Proofs.Ytjklhacffdhgaaa
open Go.RowKit

theorem put_at {x : Int} {l : List Int} {i : Nat} (h : i < l.length) : Mo.put x (l.drop i) = if l[i] < x then l[i] :: Mo.put x (l.drop (i + 1)) else if x < l[i] then x :: l[i] :: l.drop (i + 1) else l[i] :: l.drop (i + 1) := by
  rw [List.drop_eq_getElem_cons h]
  rfl
set_option maxRecDepth 100000 in
/-- A number is put into a rising list. -/
theorem specl00Put (A : Option Addr) (c : Nat) (l : List Int) (x : Int) (w : World) (h : SlAt encI 1 w A l) (hl : l.length ≤ 1000) :
    Calls Try.prog 107 #[.slice A l.length c, .int .i64 x] w (CopyI (Mo.put x l) w) := by
  have HX := hide h
  clear h
  go_enter Try.func107, Try.ntmps107
  go_wp2_with fail
  go_loopw [7, 6, 5] (fun v d t wr => ∃ (i : Nat) (b : Bool) (A' : Option Addr) (c' : Nat) (ys : List Int), v = .int .i64 i ∧ d = .bool b ∧ t = .slice A' ys.length c' ∧ i ≤ l.length ∧ ys.length ≤ i + b.toNat ∧ Hid (OwnI wr w.heap.size (.slice A' ys.length c') ys) ∧ Hid (Below w.heap.size w wr) ∧ Hid (Mo.put x l = ys ++ if b then l.drop i else Mo.put x (l.drop i))) (fun v _ _ _ => l.length - (intOf v).toNat)
  case atStart => exact ⟨0, false, some ⟨w.heap.size, 0, none⟩, 0, [], rfl, rfl, rfl, by omega, by simp, hide (own_made w rfl (Nat.le_refl _)), hide ((Below.refl _ _).alloc (Nat.le_refl _) _), hide (by simp)⟩
  case round =>
    obtain ⟨i, b, A', c', ys, rfl, rfl, rfl, hi, hyl, HO, HB, HF⟩ := hrel
    have hz := HB.out.size
    by_cases hlt : i < l.length
    · obtain ⟨bl, ol, rfl, hbl, hc⟩ := HX.out.below HB.out i hlt
      have y0 := hc 0 _ rfl
      simp only [Nat.add_zero, Nat.mul_one] at y0
      have hp := put_at (x := x) hlt
      have hd := List.drop_eq_getElem_cons hlt
      have HP := hide hp
      have HD := hide hd
      clear hc hp hd
      generalize l[i] = y at *
      have ho := HO.out
      cases b <;> simp only [Bool.toNat_false, Bool.toNat_true] at hyl
      · by_cases h1 : y < x
        · have HF2 : Hid (Mo.put x l = (ys ++ [y]) ++ if false = true then l.drop (i + 1) else Mo.put x (l.drop (i + 1))) := hide (by rw [HF.out]; simp [HP.out, h1])
          have dq : decide (x ≤ y) = false := by simp; omega
          go_wp2_with (at_builtin; refine wpList_appI rfl _ _ rfl w.heap.size rfl ho rfl (by omega) ?_ ?_; (focus omega); intro A1 c1 w1 ho1 hb1 _hg1)
          go_roundw
          case rel => exact ⟨i + 1, false, A1, c1, ys ++ [y], by go_num, rfl, by simp, by omega, by simp; omega, by simpa using hide ho1, hide (HB.out.trans hb1), HF2⟩
          case measure => simp [intOf]; omega
        · have dq : decide (x ≤ y) = true := by simp; omega
          by_cases h2 : x < y
          · have HF2 : Hid (Mo.put x l = (ys ++ [x] ++ [y]) ++ if true = true then l.drop (i + 1) else Mo.put x (l.drop (i + 1))) := hide (by rw [HF.out]; simp [HP.out, h1, h2])
            have dq2 : decide (x < y) = true := by simp; omega
            have hbl0 : bl < w.heap.size := by
              obtain ⟨b2, o2, e2, hb2, _⟩ := HX.out i hlt
              injection e2 with e2
              injection e2 with e2
              omega
            go_wp2_with (at_builtin; first | (refine wpList_appI rfl _ _ rfl w.heap.size rfl ho1 rfl (by simp; omega) ?_ ?_; (focus omega); intro A2 c2 w2 ho2 hb2 _hg2) | (refine wpList_appI rfl _ _ rfl w.heap.size rfl ho rfl (by omega) ?_ ?_; (focus omega); intro A1 c1 w1 ho1' hb1 _hg1; have ho1 : OwnI w1 w.heap.size (.slice A1 (ys.length + 1) c1) (ys ++ [x]) := ho1'; have y1 := (hb1.cell (p := ⟨bl, ol + i, none⟩) hbl0).trans y0; have hz1 := hb1.size))
            go_roundw
            case rel => exact ⟨i + 1, true, A2, c2, ys ++ [x] ++ [y], by go_num, rfl, by simp, by omega, by simp; omega, by simpa using hide ho2, hide ((HB.out.trans hb1).trans hb2), HF2⟩
            case measure => simp [intOf]; omega
          · have HF2 : Hid (Mo.put x l = (ys ++ [y]) ++ if true = true then l.drop (i + 1) else Mo.put x (l.drop (i + 1))) := hide (by rw [HF.out]; simp [HP.out, h1, h2])
            have dq2 : decide (x < y) = false := by simp; omega
            go_wp2_with (at_builtin; refine wpList_appI rfl _ _ rfl w.heap.size rfl ho rfl (by omega) ?_ ?_; (focus omega); intro A1 c1 w1 ho1 hb1 _hg1)
            go_roundw
            case rel => exact ⟨i + 1, true, A1, c1, ys ++ [y], by go_num, rfl, by simp, by omega, by simp; omega, by simpa using hide ho1, hide (HB.out.trans hb1), HF2⟩
            case measure => simp [intOf]; omega
      · have HF2 : Hid (Mo.put x l = (ys ++ [y]) ++ if true = true then l.drop (i + 1) else Mo.put x (l.drop (i + 1))) := hide (by rw [HF.out]; simp [HD.out])
        go_wp2_with (at_builtin; refine wpList_appI rfl _ _ rfl w.heap.size rfl ho rfl (by omega) ?_ ?_; (focus omega); intro A1 c1 w1 ho1 hb1 _hg1)
        go_roundw
        case rel => exact ⟨i + 1, true, A1, c1, ys ++ [y], by go_num, rfl, by simp, by omega, by simp; omega, by simpa using hide ho1, hide (HB.out.trans hb1), HF2⟩
        case measure => simp [intOf]; omega
    · obtain rfl : i = l.length := by omega
      have ho := HO.out
      cases b <;> simp only [Bool.toNat_false, Bool.toNat_true] at hyl
      · have hf : Mo.put x l = ys ++ [x] := by rw [HF.out]; simp [Mo.put]
        have HF2 := hide hf
        clear hf
        go_wp2_with (at_builtin; refine wpList_appI rfl _ _ rfl w.heap.size rfl ho rfl (by omega) ?_ ?_; (focus omega); intro A1 c1 w1 ho1 hb1 _hg1)
        go_ret
        exact ⟨A1, c1, by rw [HF2.out]; simp, by rw [HF2.out]; simpa using ho1, HB.out.trans hb1⟩
      · have hf : Mo.put x l = ys := by rw [HF.out]; simp
        have HF2 := hide hf
        clear hf
        go_wp2_with fail
        go_ret
        exact ⟨A', c', by rw [HF2.out]; rfl, by rw [HF2.out]; exact ho, HB.out⟩
theorem insR_at {lt : Nat → Nat → Bool} {od : List Nat} {x p : Nat} (h : p < od.length) : Mo.insR lt (od.take (p + 1)) x = if lt x od[p] then Mo.insR lt (od.take p) x ++ [od[p]] else od.take (p + 1) ++ [x] := by
  rw [List.take_succ_eq_append_getElem h]
  exact Mo.insR_snoc
theorem castL_take_len {od : List Nat} {p : Nat} (h : p ≤ od.length) : (castL (od.take p)).length = p := by unfold castL; rw [List.length_map, List.length_take, Nat.min_eq_left h]
theorem castL_drop_len {od : List Nat} {p : Nat} : (castL (od.drop p)).length = od.length - p := by unfold castL; rw [List.length_map, List.length_drop]
theorem own_take {w : World} {B n c p : Nat} {A : Option Addr} {od : List Nat} (h : OwnI w B (.slice A n c) (castL od)) (hn : n = od.length) (hp : p ≤ n) : OwnI w B (.slice A p c) (castL (od.take p)) := by
  have e : castL od = castL (od.take p) ++ castL (od.drop p) := by unfold castL; rw [← List.map_append, List.take_append_drop]
  rw [e] at h
  have hl := castL_take_len (od := od) (p := p) (by omega)
  have q := own_short (enc := encI) (sz := 1) (fun _ => rfl) h (by rw [List.length_append, hl, castL_drop_len]; omega)
  rw [hl] at q
  exact q
theorem slAt_drop {w : World} {g p : Nat} {od : List Nat} (h : SlAt encI 1 w (some ⟨g, 0, none⟩) (castL od)) : SlAt encI 1 w (some ⟨g, p, none⟩) (castL (od.drop p)) := by
  intro k hk
  rw [castL_drop_len] at hk
  obtain ⟨b, off, e, hb, hc⟩ := h (p + k) (by simp; omega)
  injection e with e
  injection e with e1 e2
  subst e1
  subst e2
  refine ⟨g, p, rfl, hb, fun j v hv => ?_⟩
  have q := hc j v (by simpa [castL] using hv)
  rw [show p + k * 1 + j = 0 + (p + k) * 1 + j by omega]
  exact q
theorem own_some {w : World} {B n c : Nat} {A : Option Addr} {xs : List Int} (h : OwnI w B (.slice A n c) xs) (h0 : 0 < n) : ∃ g, A = some ⟨g, 0, none⟩ ∧ n ≤ c ∧ c ≤ maxLen := by
  rcases h.2 with ⟨e, q⟩ | ⟨g, cap, cur, e, _, _, hc, hm, _⟩
  · injection e with e1 e2 e3
    omega
  · injection e with e1 e2 e3
    subst e2
    subst e3
    exact ⟨g, e1, hc, hm⟩
/-- An append of what stands in some place. -/
theorem wpList_appAt {w : World} {ops : Array Oper} {rest : List Oper} {o : Oper} {a : Act} {Q : Exit → Act → World → Prop} (hgd : o.guard = none) (s x : Operand)
    (ho : o.op = .call { callee := .builtin .append, args := #[s, x], argTypes := #[34, 34] }) (B : Nat) {v : Value} {xs ys : List Int} (hs : a.eval s = v) (hown : OwnI w B v xs) {b off n c2 : Nat}
    (hx : a.eval x = .slice (some ⟨b, off, none⟩) n c2) (hn2 : n = ys.length) (hy : SlAt encI 1 w (some ⟨b, off, none⟩) ys) (hn : xs.length + ys.length ≤ 1048577) (hB : B ≤ w.heap.size)
    (h : ∀ (A : Option Addr) (c : Nat) (w' : World), OwnI w' B (.slice A (xs.length + ys.length) c) (xs ++ ys) → Below B w w' → wpList Try.prog ops Q rest (a.put o.dst (.slice A (xs.length + ys.length) c)) w') : wpList Try.prog ops Q (o :: rest) a w := by
  obtain ⟨i0, hi, hz0, hz1, hz2⟩ := info_parts info_i64
  subst hn2
  exact wpList_appAll (sz := 1) (bytes := 8) Try.underlying34 hi hz0 hz1 hz2 rfl (by omega) (by omega) (fun _ => rfl) encI_one hgd s x ho B hs hown hx hy hn hB fun A c w' h1 h2 _ => h A c w' h1 h2
theorem wpList_appIf {w : World} {ops : Array Oper} {rest : List Oper} {o : Oper} {a : Act} {Q : Exit → Act → World → Prop} (hgd : o.guard = none) (s x : Operand)
    (ho : o.op = .call { callee := .builtin .append, args := #[s, x], argTypes := #[34, 34] }) (B : Nat) {v : Value} {xs ys : List Int} (hs : a.eval s = v) (hown : OwnI w B v xs) {b q n cc c2 : Nat}
    (hx : a.eval x = .slice (if cc = q then some ⟨b, 0, none⟩ else some ⟨b, q, none⟩) n c2) (hn2 : n = ys.length) (he : cc = q → n = 0) (hy : SlAt encI 1 w (some ⟨b, q, none⟩) ys) (hn : xs.length + ys.length ≤ 1048577) (hB : B ≤ w.heap.size)
    (h : ∀ (A : Option Addr) (c : Nat) (w' : World), OwnI w' B (.slice A (xs.length + ys.length) c) (xs ++ ys) → Below B w w' → wpList Try.prog ops Q rest (a.put o.dst (.slice A (xs.length + ys.length) c)) w') : wpList Try.prog ops Q (o :: rest) a w := by
  by_cases hc : cc = q
  · rw [if_pos hc] at hx
    have hl : ys.length = 0 := by have := he hc; omega
    exact wpList_appAt hgd s x ho B hs hown hx hn2 (fun k hk => absurd hk (by omega)) hn hB h
  · rw [if_neg hc] at hx
    exact wpList_appAt hgd s x ho B hs hown hx hn2 hy hn hB h
theorem put_len (x : Int) (l : List Int) : (Mo.put x l).length ≤ l.length + 1 := by
  induction l with
  | nil => simp [Mo.put]
  | cons y l ih =>
    simp only [Mo.put]
    split
    · simp; omega
    · split <;> simp
set_option maxRecDepth 100000 in
set_option maxHeartbeats 2000000 in
theorem specMostBells (nm : ByteArray) (sw dp sf lim : Int) (A : Option Addr) (c : Nat) (xs : List SwingR) (w : World) (hs : nm.size ≤ maxLen) (h : SlAt encSwing 3 w A xs) (hn : xs.length ≤ 1048576) (hx : ∀ x ∈ xs, x.nm.size ≤ maxLen) :
    Calls Try.prog 42 #[.agg #[.string nm, .int .i64 sw, .int .i64 dp, .int .i64 sf, .int .i64 lim], .slice A xs.length c] w (SlResM (fun ys code => mostR nm sw dp sf lim xs = (ys, code)) w) := by
  have HX := hide (h.below ((Below.refl _ _).alloc (Nat.le_refl _) (.cells #[.string nm, .int .i64 sw, .int .i64 dp, .int .i64 sf, .int .i64 lim] 56)))
  have HS := hide hx
  clear h hx
  cases hv : vTower nm sw dp sf lim
  · have e : Hid (mostR nm sw dp sf lim xs = ([], 1)) := mostR_1 hv
    go_enter Try.func42, Try.ntmps42
    go_wp2_with fail
    refine (specl22Tower _ 0 nm sw dp sf lim _ hs (by simp) (by simp) (by simp) (by simp) (by simp)).mono ?_; rintro e w1 ⟨rfl, rfl⟩
    go_wp2_with fail
    go_ret2
    exact slResM_nil e.out (by repeat (first | with_reducible exact Below.refl _ _ | with_reducible assumption | (with_reducible refine Below.drew ?_) | (with_reducible refine below_drewN ?_ _) | ((with_reducible refine Below.alloc ?_ ?_ _); rotate_left; (focus (first | omega | (simp; omega) | simp))) | ((with_reducible refine Below.setCell ?_ ?_ _); rotate_left; (focus (first | omega | (simp; omega) | simp))) | (refine Below.trans ?_ (Below.mono (by assumption) (by first | omega | (simp; omega) | simp)))))
  · cases hr : rowsB vSwingR SwingR.nm 16 xs
    · have e : Hid (mostR nm sw dp sf lim xs = ([], 1)) := mostR_2 hr
      go_enter Try.func42, Try.ntmps42
      go_wp2_with fail
      refine (specl22Tower _ 0 nm sw dp sf lim _ hs (by simp) (by simp) (by simp) (by simp) (by simp)).mono ?_; rintro e w1 ⟨rfl, rfl⟩
      go_wp2_with fail
      refine (specl22Ok A c xs _ HX.out hn HS.out).mono ?_
      rintro e w2 ⟨rfl, hb2⟩
      obtain ⟨fcb2, ffb2, fzb2⟩ := bfacts hb2 (by first | exact Nat.le_refl _ | omega | (simp; omega) | simp); have fsb2 := hb2.size; try simp at fcb2 ffb2 fzb2 fsb2 hb2
      go_wp2_with fail
      go_ret2
      exact slResM_nil e.out (by repeat (first | with_reducible exact Below.refl _ _ | with_reducible assumption | (with_reducible refine Below.drew ?_) | (with_reducible refine below_drewN ?_ _) | ((with_reducible refine Below.alloc ?_ ?_ _); rotate_left; (focus (first | omega | (simp; omega) | simp))) | ((with_reducible refine Below.setCell ?_ ?_ _); rotate_left; (focus (first | omega | (simp; omega) | simp))) | (refine Below.trans ?_ (Below.mono (by assumption) (by first | omega | (simp; omega) | simp)))))
    · have e := hide (mostR_3 hv hr)
      obtain ⟨-, ⟨a1, a2⟩, ⟨a3, a4⟩, ⟨a5, a6⟩, a7, a8⟩ := vTower_true _ _ _ _ _ hv
      obtain ⟨r1, r2, -⟩ := rowsB_true hr
      have HR1 := hide r1
      clear r1
      go_enter Try.func42, Try.ntmps42
      go_wp2_with fail
      refine (specl22Tower _ 0 nm sw dp sf lim _ hs (by simp) (by simp) (by simp) (by simp) (by simp)).mono ?_; rintro e w1 ⟨rfl, rfl⟩
      go_wp2_with fail
      refine (specl22Ok A c xs _ HX.out hn HS.out).mono ?_
      rintro e w2 ⟨rfl, hb2⟩
      obtain ⟨fcb2, ffb2, fzb2⟩ := bfacts hb2 (by first | exact Nat.le_refl _ | omega | (simp; omega) | simp); have fsb2 := hb2.size; try simp at fcb2 ffb2 fzb2 fsb2 hb2
      have HX2 := hide (HX.out.below (by simpa using hb2))
      have HB2 := hide (show Below (w.heap.size + 1) (w.alloc (.cells #[.string nm, .int .i64 sw, .int .i64 dp, .int .i64 sf, .int .i64 lim] 56)) w2 by simpa using hb2)
      have q1 := HB2.out.cell (p := ⟨w.heap.size, 1, none⟩) (by simp)
      have q2 := HB2.out.cell (p := ⟨w.heap.size, 2, none⟩) (by simp)
      have q3 := HB2.out.cell (p := ⟨w.heap.size, 3, none⟩) (by simp)
      have q4 := HB2.out.cell (p := ⟨w.heap.size, 4, none⟩) (by simp)
      have hwz := HB2.out.size
      simp at q1 q2 q3 q4 hwz
      go_wp2_with fail
      refine (specl22All _ sw dp sf A c xs _ HX2.out HR1.out r2 a1 a2 a3 a4 a5 a6 q1 q2 q3).mono ?_
      rintro e3 w3 ⟨A3, c3, rfl, ho3, hb3⟩
      have hal := amps_len sw dp sf xs
      have q4' := (hb3.cell (p := ⟨w.heap.size, 4, none⟩) (by show w.heap.size < w2.heap.size; omega)).trans q4
      have BW := hide (show Below w.heap.size w w3 from (((Below.refl _ _).alloc (Nat.le_refl _) _).trans (HB2.out.mono (by omega))).trans (hb3.mono (by omega)))
      have HO3 := hide ho3
      have HQ4 := hide q4'
      have hz3 : w2.heap.size ≤ w3.heap.size := hb3.size
      have HAV := hide (amps_val (sf := sf) a1 a2 a3 a4 a5 HR1.out)
      clear hb2 hb3 ho3 q1 q2 q3 q4 q4' hv hr HX HX2 HB2 fcb2 ffb2 fzb2
      rw [hal] at HO3 ⊢
      generalize amps sw dp sf xs = al at *
      go_wp2_with fail
      go_loopw [8, 7, 9, 10] (fun v t _ _ wr => ∃ (i g c' : Nat), v = .int .i64 i ∧ t = .slice (some ⟨g, 0, none⟩) i c' ∧ i ≤ xs.length ∧ i ≤ c' ∧ c' ≤ 9223372036854775807 ∧ Hid (OwnI wr w3.heap.size (.slice (some ⟨g, 0, none⟩) i c') (castL (Mo.ordA (Mo.ltA al) i))) ∧ Hid (Below w3.heap.size w3 wr)) (fun v _ _ _ _ => xs.length - (intOf v).toNat)
      case atStart => exact ⟨0, w3.heap.size, 0, rfl, rfl, by omega, by omega, by omega, hide (own_made w3 rfl (Nat.le_refl _)), hide ((Below.refl _ _).alloc (Nat.le_refl _) _)⟩
      case round =>
        obtain ⟨i, g, c', rfl, rfl, hi, hic, hcm, HO, HB⟩ := hrel
        have hz := HB.out.size
        by_cases hlt : i < xs.length
        · have hon : (Mo.ordA (Mo.ltA al) i).length = i := Mo.ordA_len
          have HOLT := hide (fun k (hk : k ∈ Mo.ordA (Mo.ltA al) i) => Mo.ordA_lt hk)
          have HSU := hide (show Mo.ordA (Mo.ltA al) (i + 1) = Mo.insR (Mo.ltA al) (Mo.ordA (Mo.ltA al) i) i from Mo.ordA_succ)
          generalize Mo.ordA (Mo.ltA al) i = od at *
          go_wp2_with fail
          obtain ⟨wo, rfl⟩ : ∃ wo, wo = wr := ⟨_, rfl⟩
          go_loopw [9] (fun v wr2 => ∃ (p : Nat), v = .int .i64 p ∧ p ≤ i ∧ Hid (Mo.insR (Mo.ltA al) od i = Mo.insR (Mo.ltA al) (od.take p) i ++ od.drop p) ∧ Hid (Below wo.heap.size wo wr2)) (fun v _ => (intOf v).toNat)
          case atStart => exact ⟨i, rfl, Nat.le_refl _, hide (by rw [List.take_of_length_le (by omega), List.drop_of_length_le (by omega), List.append_nil]), hide (Below.refl _ _)⟩
          case round =>
            obtain ⟨p, rfl, hp, HI, HBP⟩ := hrel
            have hzp := HBP.out.size
            have hgl : g < wr.heap.size := (( HO.out.below HBP.out).lt g rfl).2
            match p with
            | 0 =>
              go_wp2_with fail
              refine wp_region_kept (by kernel_rfl) (by kernel_rfl) ?_
              intro gc gf gz
              repeat (go_big_quiet_step (fail))
              refine wpQuiet_nil ?_
              intro w6 hw'
              obtain ⟨⟨_, hb6⟩, rfl⟩ := hw'
              clear gc gf gz
              try dsimp only
              have fs6 := hb6.size
              try simp at fs6 hb6
              have hst : Hid (castL (Mo.ordA (Mo.ltA al) (i + 1)) = castL (od.take (0)) ++ [(i : Int)] ++ castL (od.drop (0))) := hide (by rw [HSU.out, HI.out, List.take_zero, Mo.insR_nil]; simp [castL])
              have HOT := hide ((HO.out.below HBP.out).below hb6)
              have HBT := hide (HB.out.trans ((HBP.out.trans (hb6.mono HBP.out.size)).mono hz))
              have hzt := HBT.out.size
              clear hb6
              have hlp := castL_take_len (od := od) (p := 0) (by omega)
              have hld := castL_drop_len (od := od) (p := 0)
              have HSA := hide (fun (W : World) (h : Below w6.heap.size w6 W) => (slAt_drop (p := 0) ((Own.at_ (enc := encI) (sz := 1) (fun _ => rfl) (show OwnI w6 w3.heap.size (.slice (some ⟨g, 0, none⟩) (castL od).length c') (castL od) by rw [show (castL od).length = i by simp; omega]; exact HOT.out)).below h)))
              have hq := specl00Own w3.heap.size (some ⟨g, 0, none⟩) c' (castL (od.take (0))) _ (by rw [hlp]; exact own_take HOT.out hon.symm (by omega)) (by omega)
              rw [hlp] at hq
              have HQO := hide hq
              clear hq
              go_wp2_with fail
              refine HQO.out.mono ?_
              rintro e7 w7 ⟨A7, c7, rfl, ho7, hb7⟩
              have hz7 := hb7.size
              rw [hlp] at ho7 ⊢
              have HLP := hide hlp
              have HLD := hide hld
              clear hlp hld
              go_upto_region 13 with (at_builtin; refine wpList_appI rfl _ _ rfl w6.heap.size rfl ho7 rfl (by have := HLP.out; omega) ?_ ?_; (focus omega); intro A8 c8 w8 ho8 hb8 _hg8; rw [HLP.out] at ho8 ⊢)
              have hz8 := hb8.size
              go_wp2_with (at_builtin; go_loud (refine wpList_appAt rfl _ _ rfl w6.heap.size rfl ho8 rfl (by have e2 := HLD.out; omega) (HSA.out _ (hb7.trans hb8)) (by have e1 := HLP.out; have e2 := HLD.out; simp only [List.length_append, List.length_singleton]; omega) ?_ ?_; (focus omega); intro A9 c9 w9 ho9 hb9))
              have hl9 : (castL (od.take (0)) ++ [(i : Int)]).length + (castL (od.drop (0))).length = i + 1 := by
                have e1 := HLP.out
                have e2 := HLD.out
                simp only [List.length_append, List.length_singleton]
                omega
              rw [hl9, ← hst.out] at ho9
              obtain ⟨g9, rfl, hc1, hc2⟩ := own_some ho9 (by omega)
              have HO9 := hide (ho9.mono (show w3.heap.size ≤ w6.heap.size by omega))
              have HB9 := hide (HBT.out.trans (((hb7.trans hb8).trans hb9).mono hzt))
              clear hl9 ho9 ho8 ho7 hb7 hb8 hb9
              go_roundw
              case rel => exact ⟨i + 1, g9, c9, by go_num, by first | rfl | (congr 1; omega), by omega, by omega, by unfold maxLen at hc2; omega, HO9, HB9⟩
              case measure => simp [intOf]; omega
            | p + 1 =>
              obtain ⟨bo, oo, ego, hbo, hco⟩ := (Own.at_ (enc := encI) (sz := 1) (fun _ => rfl) (show OwnI wr w3.heap.size (.slice (some ⟨g, 0, none⟩) (castL od).length c') (castL od) by rw [show (castL od).length = i by simp; omega]; exact HO.out.below HBP.out)) p (by simp; omega)
              injection ego with ego
              injection ego with ego ego2
              subst ego
              subst ego2
              have y0 := hco 0 _ rfl
              simp only [Nat.add_zero, Nat.mul_one, Nat.zero_add] at y0
              have hog : (castL od)[p]'(by simp; omega) = ((od[p]'(by omega) : Nat) : Int) := by simp [castL]
              rw [hog] at y0
              have hxl : od[p]'(by omega) < i := HOLT.out _ (List.getElem_mem _)
              have hia := insR_at (lt := Mo.ltA al) (od := od) (x := i) (p := p) (by omega)
              have hdr := List.drop_eq_getElem_cons (l := od) (i := p) (by omega)
              have HIA := hide hia
              have HDR := hide hdr
              clear hco hog hia hdr
              generalize od[p]'(by omega) = x at *
              have HA := hide ((Own.at_ (enc := encI) (sz := 1) (fun _ => rfl) (show OwnI w3 _ (.slice A3 al.length c3) al by rw [hal]; exact HO3.out)).below (HB.out.trans (HBP.out.mono hz)))
              obtain ⟨ba, oa, eA, hba, hca⟩ := HA.out x (by omega)
              subst eA
              obtain ⟨ba2, oa2, eA2, hba2, hcb⟩ := HA.out i (by omega)
              injection eA2 with eA2
              injection eA2 with eA2 eA3
              subst eA2
              subst eA3
              have ya := hca 0 _ rfl
              have yb := hcb 0 _ rfl
              simp only [Nat.add_zero, Nat.mul_one] at ya yb
              have hla : Mo.ltA al i x = decide (al[i]'(by omega) < al[x]'(by omega)) := by unfold Mo.ltA; rw [List.getD_eq_getElem?_getD, List.getD_eq_getElem?_getD, List.getElem?_eq_getElem (by omega), List.getElem?_eq_getElem (by omega)]; rfl
              have HLA := hide hla
              clear hca hcb hla
              generalize al[i]'(by omega) = ai at *
              generalize al[x]'(by omega) = ax at *
              have hxn : (x : Int) < (xs.length : Int) := by omega
              have hpi : (p : Int) < (i : Int) := by omega
              by_cases hq : ai < ax
              · have dq : decide (ai < ax) = true := by simp; omega
                have HI2 := hide (show Mo.insR (Mo.ltA al) od i = Mo.insR (Mo.ltA al) (od.take p) i ++ od.drop p from by rw [HI.out, HIA.out, HLA.out, dq, if_pos rfl, HDR.out]; simp)
                clear hq
                go_wp2_with fail
                refine wp_region_kept (by kernel_rfl) (by kernel_rfl) ?_
                intro gc gf gz
                repeat (go_big_quiet_step (fail))
                refine wpQuiet_nil ?_
                intro w6 hw'
                obtain ⟨⟨_, hb6⟩, rfl⟩ := hw'
                clear gc gf gz
                try dsimp only
                have fs6 := hb6.size
                try simp at fs6 hb6
                go_wp2_with fail
                go_roundw
                case rel => exact ⟨p, by go_num, by omega, HI2, hide (HBP.out.trans (hb6.mono HBP.out.size))⟩
                case measure => simp [intOf]
              · have dq : decide (ai < ax) = false := by simp; omega
                have HIN := hide (show Mo.insR (Mo.ltA al) (od.take (p + 1)) i = od.take (p + 1) ++ [i] from by rw [HIA.out, HLA.out, dq, if_neg (by simp)])
                clear hq
                go_wp2_with fail
                refine wp_region_kept (by kernel_rfl) (by kernel_rfl) ?_
                intro gc gf gz
                repeat (go_big_quiet_step (fail))
                refine wpQuiet_nil ?_
                intro w6 hw'
                obtain ⟨⟨_, hb6⟩, rfl⟩ := hw'
                clear gc gf gz
                try dsimp only
                have fs6 := hb6.size
                try simp at fs6 hb6
                clear y0 ya yb
                have hst : Hid (castL (Mo.ordA (Mo.ltA al) (i + 1)) = castL (od.take (p + 1)) ++ [(i : Int)] ++ castL (od.drop (p + 1))) := hide (by rw [HSU.out, HI.out, HIN.out]; simp [castL])
                have HOT := hide ((HO.out.below HBP.out).below hb6)
                have HBT := hide (HB.out.trans ((HBP.out.trans (hb6.mono HBP.out.size)).mono hz))
                have hzt := HBT.out.size
                clear hb6
                have hlp := castL_take_len (od := od) (p := p + 1) (by omega)
                have hld := castL_drop_len (od := od) (p := p + 1)
                have HSA := hide (fun (W : World) (h : Below w6.heap.size w6 W) => (slAt_drop (p := p + 1) ((Own.at_ (enc := encI) (sz := 1) (fun _ => rfl) (show OwnI w6 w3.heap.size (.slice (some ⟨g, 0, none⟩) (castL od).length c') (castL od) by rw [show (castL od).length = i by simp; omega]; exact HOT.out)).below h)))
                have hq := specl00Own w3.heap.size (some ⟨g, 0, none⟩) c' (castL (od.take (p + 1))) _ (by rw [hlp]; exact own_take HOT.out hon.symm (by omega)) (by omega)
                rw [hlp] at hq
                have HQO := hide hq
                clear hq
                go_wp2_with fail
                refine HQO.out.mono ?_
                rintro e7 w7 ⟨A7, c7, rfl, ho7, hb7⟩
                have hz7 := hb7.size
                rw [hlp] at ho7 ⊢
                have HLP := hide hlp
                have HLD := hide hld
                clear hlp hld
                go_upto_region 13 with (at_builtin; refine wpList_appI rfl _ _ rfl w6.heap.size rfl ho7 rfl (by have := HLP.out; omega) ?_ ?_; (focus omega); intro A8 c8 w8 ho8 hb8 _hg8; rw [HLP.out] at ho8 ⊢)
                have hz8 := hb8.size
                go_wp2_with (at_builtin; go_loud (refine wpList_appIf rfl _ _ rfl w6.heap.size rfl ho8 rfl (by have e2 := HLD.out; omega) (by omega) (HSA.out _ (hb7.trans hb8)) (by have e1 := HLP.out; have e2 := HLD.out; simp only [List.length_append, List.length_singleton]; omega) ?_ ?_; (focus omega); intro A9 c9 w9 ho9 hb9))
                have hl9 : (castL (od.take (p + 1)) ++ [(i : Int)]).length + (castL (od.drop (p + 1))).length = i + 1 := by
                  have e1 := HLP.out
                  have e2 := HLD.out
                  simp only [List.length_append, List.length_singleton]
                  omega
                rw [hl9, ← hst.out] at ho9
                obtain ⟨g9, rfl, hc1, hc2⟩ := own_some ho9 (by omega)
                have HO9 := hide (ho9.mono (show w3.heap.size ≤ w6.heap.size by omega))
                have HB9 := hide (HBT.out.trans (((hb7.trans hb8).trans hb9).mono hzt))
                clear hl9 ho9 ho8 ho7 hb7 hb8 hb9
                go_roundw
                case rel => exact ⟨i + 1, g9, c9, by go_num, by first | rfl | (congr 1; omega), by omega, by omega, by unfold maxLen at hc2; omega, HO9, HB9⟩
                case measure => simp [intOf]; omega
        · obtain rfl : i = xs.length := by omega
          have hon : (Mo.ordA (Mo.ltA al) xs.length).length = xs.length := Mo.ordA_len
          have HOLT := hide (fun k (hk : k ∈ Mo.ordA (Mo.ltA al) xs.length) => Mo.ordA_lt hk)
          have HFT := hide (show Mo.most al lim = Mo.rise (castL (Mo.takeG al lim (Mo.ordA (Mo.ltA al) xs.length) 0)) from by unfold Mo.most; rw [hal])
          generalize Mo.ordA (Mo.ltA al) xs.length = od at *
          have BW5 := hide (BW.out.trans (HB.out.mono (by have := BW.out.size; omega)))
          have hw5 := BW5.out.size
          have hgl := (HO.out.lt g rfl).2
          obtain ⟨wo, rfl⟩ : ∃ wo, wo = wr := ⟨_, rfl⟩
          go_wp2_with fail
          go_loopw [13, 12, 11] (fun v sm t wr2 => ∃ (j : Nat) (A9 : Option Addr) (c9 : Nat) (ys tk : List Int) (s : Int), v = .int .i64 j ∧ sm = .int .i64 s ∧ t = .slice A9 ys.length c9 ∧ j ≤ xs.length ∧ ys.length ≤ j ∧ 0 ≤ s ∧ s ≤ lim ∧ Hid (OwnI wr2 wo.heap.size (.slice A9 ys.length c9) ys) ∧ Hid (Below wo.heap.size wo wr2) ∧ Hid (ys = Mo.rise tk) ∧ Hid (tk ++ castL (Mo.takeG al lim (od.drop j) s) = castL (Mo.takeG al lim od 0))) (fun v _ _ _ => xs.length - (intOf v).toNat)
          case atStart => exact ⟨0, some ⟨wo.heap.size, 0, none⟩, 0, [], [], 0, rfl, rfl, rfl, by omega, by simp, by omega, by omega, hide (own_made wo rfl (Nat.le_refl _)), hide ((Below.refl _ _).alloc (Nat.le_refl _) _), hide rfl, hide (by rw [List.drop_zero, List.nil_append])⟩
          case round =>
            obtain ⟨j, A9, c9, ys, tk, s, rfl, rfl, rfl, hj, hyl, s0, s1, HO9, HB9, HY, HG⟩ := hrel
            by_cases hlt2 : j < xs.length
            · obtain ⟨bo, oo, ego, hbo, hco⟩ := (Own.at_ (enc := encI) (sz := 1) (fun _ => rfl) (show OwnI wo w3.heap.size (.slice (some ⟨g, 0, none⟩) (castL od).length c') (castL od) by rw [show (castL od).length = xs.length by simp; omega]; exact HO.out)).below HB9.out j (by simp; omega)
              injection ego with ego
              injection ego with ego ego2
              subst ego
              subst ego2
              have y0 := hco 0 _ rfl
              simp only [Nat.add_zero, Nat.mul_one, Nat.zero_add] at y0
              have hog : (castL od)[j]'(by simp; omega) = ((od[j]'(by omega) : Nat) : Int) := by simp [castL]
              rw [hog] at y0
              have hxl : od[j]'(by omega) < xs.length := HOLT.out _ (List.getElem_mem _)
              have htg := takeG_at (al := al) (lim := lim) (s := s) (o := od) (j := j) (by omega)
              have HTG := hide htg
              clear hco hog htg
              generalize od[j]'(by omega) = x at *
              have HA := hide ((Own.at_ (enc := encI) (sz := 1) (fun _ => rfl) (show OwnI w3 _ (.slice A3 al.length c3) al by rw [hal]; exact HO3.out)).below (HB.out.trans (HB9.out.mono hz)))
              obtain ⟨ba, oa, eA, hba, hca⟩ := HA.out x (by omega)
              subst eA
              have ya := hca 0 _ rfl
              simp only [Nat.add_zero, Nat.mul_one] at ya
              have hav := HAV.out (al[x]'(by omega)) (List.getElem_mem _)
              have hgd : al.getD x 0 = al[x]'(by omega) := by rw [List.getD_eq_getElem?_getD, List.getElem?_eq_getElem (by omega)]; rfl
              rw [hgd] at HTG
              clear hca hgd
              generalize al[x]'(by omega) = a at *
              have q4 := ((HB.out.trans (HB9.out.mono hz)).cell (p := ⟨w.heap.size, 4, none⟩) (by show w.heap.size < w3.heap.size; omega)).trans HQ4.out
              have kA : IntKind.i64.wrap (s + a) = s + a := IntWalk.i64_in _ (by omega)
              have hxn : (x : Int) < (xs.length : Int) := by omega
              by_cases hq : lim < s + a
              · have dq : decide (lim < s + a) = true := by simp; omega
                have hfin : mostR nm sw dp sf lim xs = (ys, 0) := by rw [e.out, HFT.out, HY.out, ← HG.out, HTG.out, if_pos hq]; simp
                have HFIN := hide hfin
                clear hfin hq
                go_wp2_with fail
                go_ret2
                exact ⟨A9, c9, ys, 0, rfl, HFIN.out, by omega, HO9.out.mono hw5, BW5.out.trans (HB9.out.mono hw5)⟩
              · have dq : decide (lim < s + a) = false := by simp; omega
                have HG2 : Hid ((tk ++ [(x : Int)]) ++ castL (Mo.takeG al lim (od.drop (j + 1)) (s + a)) = castL (Mo.takeG al lim od 0)) := hide (by
                  rw [← HG.out, HTG.out, if_neg hq]
                  simp)
                have HSL := hide (show s + a ≤ lim by omega)
                have HP := hide (specl00Put A9 c9 ys (x : Int) wr (Own.at_ (enc := encI) (sz := 1) (fun _ => rfl) HO9.out) (by omega))
                clear hq
                go_wp2_with fail
                refine HP.out.mono ?_
                rintro e8 w8 ⟨A8, c8, rfl, ho8, hb8⟩
                have hz9 := HB9.out.size
                have HO8 := hide (ho8.mono hz9)
                have HB8 := hide (HB9.out.trans (hb8.mono hz9))
                have hpl := put_len (x : Int) ys
                clear ho8 hb8 HP y0 ya q4 dq
                go_wp2_with fail
                go_roundw
                case rel => exact ⟨j + 1, A8, c8, Mo.put (x : Int) ys, tk ++ [(x : Int)], s + a, by go_num, by go_num, rfl, by omega, by omega, by omega, HSL.out, HO8, HB8, hide (by rw [Mo.rise_snoc, ← HY.out]), HG2⟩
                case measure => simp [intOf]; omega
            · obtain rfl : j = xs.length := by omega
              have hfin : mostR nm sw dp sf lim xs = (ys, 0) := by rw [e.out, HFT.out, HY.out, ← HG.out, takeG_end (by omega)]; simp
              have HFIN := hide hfin
              clear hfin
              go_wp2_with fail
              go_ret2
              exact ⟨A9, c9, ys, 0, rfl, HFIN.out, by omega, HO9.out.mono hw5, BW5.out.trans (HB9.out.mono hw5)⟩
end Go.Proofs.Ytjklhacffdhgaaa
