/- Charges: the sums of a choice, whether it fits, on both sides; the counter's node. -/
import Derived.Test.YtjklhacffdhgaaaIng2
import Derived.Test.YtjklhacffdhgaaaChS
namespace Go.Proofs.Ytjklhacffdhgaaa
open Go.RowKit

def pickI (xs : List IngotR) (i : Int) : IngotR := xs.getD i.toNat ⟨⟨#[]⟩, 0, 0, 0, 0⟩
def sumB (f : IngotR → Int) (xs : List IngotR) : List Int → Int
  | [] => 0
  | i :: is => f (pickI xs i) + sumB f xs is
theorem sumB_snoc (f : IngotR → Int) (xs : List IngotR) (ch : List Int) (i : Int) : sumB f xs (ch ++ [i]) = sumB f xs ch + f (pickI xs i) := by
  induction ch with
  | nil => simp [sumB]
  | cons j ch ih => simp only [List.cons_append, sumB, ih]; omega
theorem sumB_take {f : IngotR → Int} {xs : List IngotR} {ch : List Int} {k : Nat} (h : k < ch.length) : sumB f xs (ch.take (k + 1)) = sumB f xs (ch.take k) + f (pickI xs ch[k]) := by
  rw [List.take_succ_eq_append_getElem h, sumB_snoc]
/-- The indices of a choice are ones of ingots. -/
def GoodCh (n : Nat) (ch : List Int) : Prop := ∀ i ∈ ch, 0 ≤ i ∧ i < n
theorem pickI_mem {xs : List IngotR} {i : Int} (h0 : 0 ≤ i) (h : i < xs.length) : pickI xs i ∈ xs := by
  have hk : i.toNat < xs.length := by omega
  unfold pickI
  rw [List.getD_eq_getElem?_getD, List.getElem?_eq_getElem hk]
  exact List.getElem_mem hk
theorem pickI_get {xs : List IngotR} {i : Int} {k : Nat} (hk : k < xs.length) (h : i = k) : pickI xs i = xs[k] := by
  subst h
  unfold pickI
  rw [Int.toNat_natCast, List.getD_eq_getElem?_getD, List.getElem?_eq_getElem hk]
  rfl
theorem sumB_bd {f : IngotR → Int} {xs : List IngotR} {M : Int} (h : ∀ x ∈ xs, 0 ≤ f x ∧ f x ≤ M) : ∀ {ch : List Int}, GoodCh xs.length ch → 0 ≤ sumB f xs ch ∧ sumB f xs ch ≤ M * ch.length := by
  intro ch
  induction ch with
  | nil => intro _; simp [sumB]
  | cons j ch ih =>
    intro hg
    have a := hg j (by simp)
    have b := h _ (pickI_mem a.1 a.2)
    have c := ih fun i hi => hg i (by simp [hi])
    have e : M * ((j :: ch).length : Int) = M * ch.length + M := by rw [List.length_cons, Int.natCast_add, Int.mul_add]; simp
    rw [e]
    simp only [sumB]
    omega
abbrev fM (x : IngotR) : Int := x.mass
abbrev fT (x : IngotR) : Int := x.mass * x.ti
abbrev fO (x : IngotR) : Int := x.mass * x.ot
abbrev vIngotX (x : IngotR) : Bool := vIngot x.nm x.mass x.cu x.ti x.ot
theorem prod_bd {a b M N : Int} (a0 : 0 ≤ a) (a1 : a ≤ M) (b0 : 0 ≤ b) (b1 : b ≤ N) : 0 ≤ a * b ∧ a * b ≤ M * N := ⟨Int.mul_nonneg a0 b0, Int.mul_le_mul a1 b1 b0 (by omega)⟩
theorem sums_bd {xs : List IngotR} {ch : List Int} (hv : ∀ x ∈ xs, vIngotX x = true) (hg : GoodCh xs.length ch) (hl : ch.length ≤ 16) :
    (0 ≤ sumB fM xs ch ∧ sumB fM xs ch ≤ 320000000) ∧ (0 ≤ sumB fT xs ch ∧ sumB fT xs ch ≤ 320000000000000) ∧ 0 ≤ sumB fO xs ch ∧ sumB fO xs ch ≤ 320000000000000 := by
  have a := sumB_bd (f := fM) (M := 20000000) (fun x hx => by have := vIngot_true (hv x hx); exact ⟨by show 0 ≤ x.mass; omega, this.1.2⟩) hg
  have b := sumB_bd (f := fT) (M := 20000000000000) (fun x hx => by have q := vIngot_true (hv x hx); exact prod_bd (M := 20000000) (N := 1000000) (by omega) q.1.2 q.2.2.1.1 q.2.2.1.2) hg
  have c := sumB_bd (f := fO) (M := 20000000000000) (fun x hx => by have q := vIngot_true (hv x hx); exact prod_bd (M := 20000000) (N := 1000000) (by omega) q.1.2 q.2.2.2.1 q.2.2.2.2) hg
  omega
theorem GoodCh.take {n k : Nat} {ch : List Int} (h : GoodCh n ch) : GoodCh n (ch.take k) := fun i hi => h i (List.mem_of_mem_take hi)
theorem ret_three' {a b c a' b' c' : Int} (h1 : a = a') (h2 : b = b') (h3 : c = c') : Ending.returned (.tuple #[.int .i64 a, .int .i64 b, .int .i64 c]) = .returned (.tuple #[.int .i64 a', .int .i64 b', .int .i64 c']) := by subst h1; subst h2; subst h3; rfl
set_option maxRecDepth 100000 in
theorem implsums (A A2 : Option Addr) (c c2 : Nat) (xs : List IngotR) (ch : List Int) (w : World) (h : SlAt encIngot 5 w A xs) (h2 : SlAt encI 1 w A2 ch) (hv : ∀ x ∈ xs, vIngotX x = true) (hg : GoodCh xs.length ch) (hl : ch.length ≤ 16) :
    Calls Try.prog 159 #[.slice A xs.length c, .slice A2 ch.length c2] w fun e w' => e = .returned (.tuple #[.int .i64 (sumB fM xs ch), .int .i64 (sumB fT xs ch), .int .i64 (sumB fO xs ch)]) ∧ Below w.heap.size w w' := by
  have HX := hide h
  have HC := hide h2
  have HV := hide hv
  have HG := hide hg
  clear h h2 hv hg
  go_enter Try.func159, Try.ntmps159
  go_wp2_with fail
  go_loopw [15, 7, 8, 9] (fun v a b d wr => ∃ (k : Nat) (m t o : Int), v = .int .i64 k ∧ a = .int .i64 m ∧ b = .int .i64 t ∧ d = .int .i64 o ∧ k ≤ ch.length ∧ Hid (m = sumB fM xs (ch.take k)) ∧ Hid (t = sumB fT xs (ch.take k)) ∧ Hid (o = sumB fO xs (ch.take k)) ∧ Hid (Below w.heap.size w wr)) (fun v _ _ _ _ => ch.length - (intOf v).toNat)
  case atStart => exact ⟨0, 0, 0, 0, rfl, rfl, rfl, rfl, by omega, rfl, rfl, rfl, hide (Below.refl _ _)⟩
  case round =>
    obtain ⟨k, m, t, o, rfl, rfl, rfl, rfl, hk, hm, ht, ho, HB⟩ := hrel
    have hz := HB.out.size
    have hbd := sums_bd (ch := ch.take k) HV.out HG.out.take (by rw [List.length_take]; omega)
    rw [← hm.out, ← ht.out, ← ho.out] at hbd
    obtain ⟨⟨m0, m1⟩, ⟨t0, t1⟩, ⟨o0, o1⟩⟩ := hbd
    by_cases hlt : k < ch.length
    · obtain ⟨b, off, rfl, hbl, hc⟩ := (HC.out.below HB.out) k hlt
      have hc0 := hc 0 _ rfl
      simp only [Nat.add_zero, Nat.mul_one] at hc0
      have hgk := HG.out _ (List.getElem_mem hlt)
      have sm := sumB_take (f := fM) (xs := xs) hlt
      have st := sumB_take (f := fT) (xs := xs) hlt
      have so := sumB_take (f := fO) (xs := xs) hlt
      rw [← hm.out] at sm
      rw [← ht.out] at st
      rw [← ho.out] at so
      generalize ch[k] = i at *
      obtain ⟨j, rfl⟩ := Int.eq_ofNat_of_zero_le hgk.1
      have hj : j < xs.length := by omega
      have hpk : pickI xs (j : Int) = xs[j] := pickI_get hj rfl
      obtain ⟨b2, off2, rfl, hbl2, hd⟩ := (HX.out.below HB.out) j hj
      have hd0 := hd 0 _ rfl
      have hd1 := hd 1 _ rfl
      have hd2 := hd 2 _ rfl
      have hd3 := hd 3 _ rfl
      have hd4 := hd 4 _ rfl
      simp only [Nat.add_zero] at hd0
      have hvj := vIngot_true (HV.out xs[j] (List.getElem_mem hj))
      rw [hpk] at sm st so
      clear hc hd hpk hgk
      generalize xs[j] = x at *
      obtain ⟨x0, x1, x2, x3, x4⟩ := x
      simp only at hd0 hd1 hd2 hd3 hd4 hvj sm st so
      obtain ⟨⟨v1, v2⟩, -, ⟨v3, v4⟩, v5, v6⟩ := hvj
      have p1 := prod_bd (M := 20000000) (N := 1000000) (show 0 ≤ x1 by omega) v2 v3 v4
      have p2 := prod_bd (M := 20000000) (N := 1000000) (show 0 ≤ x1 by omega) v2 v5 v6
      obtain ⟨p10, p11⟩ := p1
      obtain ⟨p20, p21⟩ := p2
      have SM := hide sm.symm
      have ST := hide st.symm
      have SO := hide so.symm
      clear sm st so
      go_wp2_with fail
      go_roundw
      case rel => exact ⟨k + 1, m + x1, t + x1 * x3, o + x1 * x4, by go_num, rfl, rfl, rfl, by omega, SM, ST, SO, hide (by have hb := HB.out; exact (by repeat (first | with_reducible exact Below.refl _ _ | with_reducible assumption | (with_reducible refine Below.drew ?_) | (with_reducible refine below_drewN ?_ _) | ((with_reducible refine Below.alloc ?_ ?_ _); rotate_left; (focus (first | omega | (simp; omega) | simp))) | ((with_reducible refine Below.setCell ?_ ?_ _); rotate_left; (focus (first | omega | (simp; omega) | simp))) | (refine Below.trans ?_ (Below.mono (by assumption) (by first | omega | (simp; omega) | simp))))))⟩
      case measure => simp [intOf]; omega
    · obtain rfl : k = ch.length := by omega
      have EM : Hid (m = sumB fM xs ch) := hide (by rw [hm.out, List.take_length])
      have ET : Hid (t = sumB fT xs ch) := hide (by rw [ht.out, List.take_length])
      have EO : Hid (o = sumB fO xs ch) := hide (by rw [ho.out, List.take_length])
      clear hm ht ho
      go_wp2_with fail
      go_ret3
      exact ⟨ret_three' EM.out ET.out EO.out, HB.out⟩
/-- Whether a mass with tin and other metal is what is asked for. -/
def fitB (d0 d1 d2 d3 d4 m t o : Int) : Bool := inB m d0 d1 && inB t (d2 * m) (d3 * m) && decide (o ≤ d4 * m)
/-- Whether a choice fits. -/
def fitC (d0 d1 d2 d3 d4 : Int) (xs : List IngotR) (ch : List Int) : Bool := fitB d0 d1 d2 d3 d4 (sumB fM xs ch) (sumB fT xs ch) (sumB fO xs ch)
set_option maxRecDepth 100000 in
set_option maxHeartbeats 1000000 in
theorem implfits (d0 d1 d2 d3 d4 : Int) (A A2 : Option Addr) (c c2 : Nat) (xs : List IngotR) (ch : List Int) (w : World) (h : SlAt encIngot 5 w A xs) (h2 : SlAt encI 1 w A2 ch) (hv : ∀ x ∈ xs, vIngotX x = true) (hg : GoodCh xs.length ch) (hl : ch.length ≤ 16) (hd : vDem d0 d1 d2 d3 d4 = true) :
    Calls Try.prog 92 #[.slice A xs.length c, .slice A2 ch.length c2, .agg #[.int .i64 d0, .int .i64 d1, .int .i64 d2, .int .i64 d3, .int .i64 d4]] w fun e w' => e = .returned (.bool (fitC d0 d1 d2 d3 d4 xs ch)) ∧ Below w.heap.size w w' := by
  have HX := hide (h.below ((Below.refl _ _).alloc (Nat.le_refl _) (.cells #[.int .i64 d0, .int .i64 d1, .int .i64 d2, .int .i64 d3, .int .i64 d4] 30)))
  have HC := hide (h2.below ((Below.refl _ _).alloc (Nat.le_refl _) (.cells #[.int .i64 d0, .int .i64 d1, .int .i64 d2, .int .i64 d3, .int .i64 d4] 30)))
  have HV := hide hv
  have HG := hide hg
  have e : Hid (fitC d0 d1 d2 d3 d4 xs ch = fitB d0 d1 d2 d3 d4 (sumB fM xs ch) (sumB fT xs ch) (sumB fO xs ch)) := rfl
  obtain ⟨⟨m0, m1⟩, ⟨t0, t1⟩, ⟨o0, o1⟩⟩ := sums_bd (ch := ch) hv hg hl
  obtain ⟨⟨a0, a1⟩, a2, ⟨a3, a4⟩, a5, a6, a7⟩ := vDem_true hd
  have hs := fun W g1 g2 => implsums A A2 c c2 xs ch W g1 g2 HV.out HG.out hl
  have HS := hide hs
  clear h h2 hv hg hs
  generalize sumB fM xs ch = m at *
  generalize sumB fT xs ch = t at *
  generalize sumB fO xs ch = o at *
  obtain ⟨p0, p1⟩ := prod_bd (M := 1000000) (N := 320000000) a3 (show d2 ≤ 1000000 by omega) m0 m1
  obtain ⟨p2, p3⟩ := prod_bd (M := 1000000) (N := 320000000) (show 0 ≤ d3 by omega) a5 m0 m1
  obtain ⟨p4, p5⟩ := prod_bd (M := 1000000) (N := 320000000) a6 a7 m0 m1
  cases h0 : inB m d0 d1
  · go_enter Try.func92, Try.ntmps92
    go_wp2_with fail
    refine (HS.out _ HX.out HC.out).mono ?_
    rintro e w1 ⟨rfl, hb1⟩
    obtain ⟨fcb1, ffb1, fzb1⟩ := bfacts hb1 (by first | exact Nat.le_refl _ | omega | (simp; omega) | simp); have fsb1 := hb1.size; try simp at fcb1 ffb1 fzb1 fsb1 hb1
    go_wp2_with (go_at_call 122; refine (implwithin_is _ _ _ _ (by assumption) _).mono ?_; rintro e w2 ⟨rfl, rfl⟩)
    go_ret
    exact ⟨ret_bool (by rw [e.out]; unfold fitB; rw [h0]; rfl), (by repeat (first | with_reducible exact Below.refl _ _ | with_reducible assumption | (with_reducible refine Below.drew ?_) | (with_reducible refine below_drewN ?_ _) | ((with_reducible refine Below.alloc ?_ ?_ _); rotate_left; (focus (first | omega | (simp; omega) | simp))) | ((with_reducible refine Below.setCell ?_ ?_ _); rotate_left; (focus (first | omega | (simp; omega) | simp))) | (refine Below.trans ?_ (Below.mono (by assumption) (by first | omega | (simp; omega) | simp)))))⟩
  · cases h1 : inB t (d2 * m) (d3 * m)
    · go_enter Try.func92, Try.ntmps92
      go_wp2_with fail
      refine (HS.out _ HX.out HC.out).mono ?_
      rintro e w1 ⟨rfl, hb1⟩
      obtain ⟨fcb1, ffb1, fzb1⟩ := bfacts hb1 (by first | exact Nat.le_refl _ | omega | (simp; omega) | simp); have fsb1 := hb1.size; try simp at fcb1 ffb1 fzb1 fsb1 hb1
      go_wp2_with (go_at_call 122; refine (implwithin_is _ _ _ _ (by assumption) _).mono ?_; rintro e w2 ⟨rfl, rfl⟩)
      go_ret
      exact ⟨ret_bool (by rw [e.out]; unfold fitB; rw [h0, h1]; rfl), (by repeat (first | with_reducible exact Below.refl _ _ | with_reducible assumption | (with_reducible refine Below.drew ?_) | (with_reducible refine below_drewN ?_ _) | ((with_reducible refine Below.alloc ?_ ?_ _); rotate_left; (focus (first | omega | (simp; omega) | simp))) | ((with_reducible refine Below.setCell ?_ ?_ _); rotate_left; (focus (first | omega | (simp; omega) | simp))) | (refine Below.trans ?_ (Below.mono (by assumption) (by first | omega | (simp; omega) | simp)))))⟩
    · go_enter Try.func92, Try.ntmps92
      go_wp2_with fail
      refine (HS.out _ HX.out HC.out).mono ?_
      rintro e w1 ⟨rfl, hb1⟩
      obtain ⟨fcb1, ffb1, fzb1⟩ := bfacts hb1 (by first | exact Nat.le_refl _ | omega | (simp; omega) | simp); have fsb1 := hb1.size; try simp at fcb1 ffb1 fzb1 fsb1 hb1
      go_wp2_with (go_at_call 122; refine (implwithin_is _ _ _ _ (by assumption) _).mono ?_; rintro e w2 ⟨rfl, rfl⟩)
      go_ret
      exact ⟨ret_bool (by rw [e.out]; unfold fitB; rw [h0, h1]; rfl), (by repeat (first | with_reducible exact Below.refl _ _ | with_reducible assumption | (with_reducible refine Below.drew ?_) | (with_reducible refine below_drewN ?_ _) | ((with_reducible refine Below.alloc ?_ ?_ _); rotate_left; (focus (first | omega | (simp; omega) | simp))) | ((with_reducible refine Below.setCell ?_ ?_ _); rotate_left; (focus (first | omega | (simp; omega) | simp))) | (refine Below.trans ?_ (Below.mono (by assumption) (by first | omega | (simp; omega) | simp)))))⟩
set_option maxRecDepth 100000 in
set_option maxHeartbeats 1000000 in
theorem specl13Fits (bl off : Nat) (d0 d1 d2 d3 d4 m t o : Int) (w : World) (hd : vDem d0 d1 d2 d3 d4 = true) (m0 : 0 ≤ m) (m1 : m ≤ 320000000)
    (c0 : w.cell? ⟨bl, off, none⟩ = some (.int .i64 d0)) (c1 : w.cell? ⟨bl, off + 1, none⟩ = some (.int .i64 d1)) (c2 : w.cell? ⟨bl, off + 2, none⟩ = some (.int .i64 d2)) (c3 : w.cell? ⟨bl, off + 3, none⟩ = some (.int .i64 d3)) (c4 : w.cell? ⟨bl, off + 4, none⟩ = some (.int .i64 d4)) :
    Calls Try.prog 183 #[.pointer (some ⟨bl, off, none⟩), .int .i64 m, .int .i64 t, .int .i64 o] w fun e w' => e = .returned (.bool (fitB d0 d1 d2 d3 d4 m t o)) ∧ Below w.heap.size w w' := by
  have hbl : bl < w.heap.size := World.block_lt_of_cell? w _ c0
  have e : Hid (fitB d0 d1 d2 d3 d4 m t o = (inB m d0 d1 && inB t (d2 * m) (d3 * m) && decide (o ≤ d4 * m))) := rfl
  obtain ⟨⟨a0, a1⟩, a2, ⟨a3, a4⟩, a5, a6, a7⟩ := vDem_true hd
  obtain ⟨p0, p1⟩ := prod_bd (M := 1000000) (N := 320000000) a3 (show d2 ≤ 1000000 by omega) m0 m1
  obtain ⟨p2, p3⟩ := prod_bd (M := 1000000) (N := 320000000) (show 0 ≤ d3 by omega) a5 m0 m1
  obtain ⟨p4, p5⟩ := prod_bd (M := 1000000) (N := 320000000) a6 a7 m0 m1
  have k1 : IntKind.i64.wrap (d2 * m) = d2 * m := IntWalk.i64_in _ (by omega)
  have k2 : IntKind.i64.wrap (d3 * m) = d3 * m := IntWalk.i64_in _ (by omega)
  have k3 : IntKind.i64.wrap (d4 * m) = d4 * m := IntWalk.i64_in _ (by omega)
  cases h0 : inB m d0 d1
  · go_enter Try.func183, Try.ntmps183
    go_wp2_with fail
    refine wp_region_kept (by kernel_rfl) (by kernel_rfl) ?_
    intro gc gf gz
    repeat (go_big_quiet_step ((go_at_call 96; exact Calls.kept_same (specl00In_is _ _ _ _ (by assumption) _))))
    refine wpQuiet_nil ?_
    intro w1 hw'
    obtain ⟨⟨_, hb1⟩, rfl⟩ := hw'
    clear gc gf gz
    try dsimp only
    have fs1 := hb1.size
    try simp at fs1 hb1
    go_wp2_with fail
    go_ret
    exact ⟨ret_bool (by rw [e.out, h0]; rfl), hb1⟩
  · cases h1 : inB t (d2 * m) (d3 * m)
    · go_enter Try.func183, Try.ntmps183
      go_wp2_with fail
      refine wp_region_kept (by kernel_rfl) (by kernel_rfl) ?_
      intro gc gf gz
      repeat (go_big_quiet_step ((go_at_call 96; exact Calls.kept_same (specl00In_is _ _ _ _ (by assumption) _))))
      refine wpQuiet_nil ?_
      intro w1 hw'
      obtain ⟨⟨_, hb1⟩, rfl⟩ := hw'
      clear gc gf gz
      try dsimp only
      have fs1 := hb1.size
      try simp at fs1 hb1
      go_wp2_with fail
      go_ret
      exact ⟨ret_bool (by rw [e.out, h0, h1]; rfl), hb1⟩
    · go_enter Try.func183, Try.ntmps183
      go_wp2_with fail
      refine wp_region_kept (by kernel_rfl) (by kernel_rfl) ?_
      intro gc gf gz
      repeat (go_big_quiet_step ((go_at_call 96; exact Calls.kept_same (specl00In_is _ _ _ _ (by assumption) _))))
      refine wpQuiet_nil ?_
      intro w1 hw'
      obtain ⟨⟨_, hb1⟩, rfl⟩ := hw'
      clear gc gf gz
      try dsimp only
      have fs1 := hb1.size
      try simp at fs1 hb1
      go_wp2_with fail
      go_ret
      exact ⟨ret_bool (by rw [e.out, h0, h1]; rfl), hb1⟩
theorem node_none (b : Nat) (s : Bool) (w : World) (c0 : w.cell? ⟨b, 0, none⟩ = some (.int .i64 0)) (c1 : w.cell? ⟨b, 1, none⟩ = some (.bool s)) (f1 : w.frozen? ⟨b, 1, none⟩ = false) :
    Calls Try.prog 165 #[.pointer (some ⟨b, 0, none⟩)] w fun e w' => e = .returned (.bool false) ∧ w.setCell ⟨b, 1, none⟩ (.bool true) = w' := by
  go_enter Try.func165, Try.ntmps165
  go_wp2_with fail
  go_ret
  exact ⟨rfl, rfl⟩
theorem node_some (b : Nat) (n : Int) (w : World) (h0 : n ≠ 0) (h1 : 0 ≤ n) (h2 : n ≤ 1000000000) (c0 : w.cell? ⟨b, 0, none⟩ = some (.int .i64 n)) (f0 : w.frozen? ⟨b, 0, none⟩ = false) :
    Calls Try.prog 165 #[.pointer (some ⟨b, 0, none⟩)] w fun e w' => e = .returned (.bool true) ∧ w.setCell ⟨b, 0, none⟩ (.int .i64 (n - 1)) = w' := by
  have e : (n == 0) = false := by simpa using h0
  clear h0
  go_enter Try.func165, Try.ntmps165
  go_wp2_with fail
  go_ret
  exact ⟨rfl, rfl⟩
end Go.Proofs.Ytjklhacffdhgaaa
