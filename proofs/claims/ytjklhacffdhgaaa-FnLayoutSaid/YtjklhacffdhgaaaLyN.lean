/- The law of layouts: what is found is clear, and has the reaches that were asked for. -/
import Derived.Test.YtjklhacffdhgaaaLyK
import Derived.Test.YtjklhacffdhgaaaClash2
import Derived.Test.YtjklhacffdhgaaaDrawSw
namespace Go.Proofs.Ytjklhacffdhgaaa
open Go.RowKit

theorem outsN_nil {a b c g : Int} : ∀ (xs : List PlaceR) (k : Nat), (∀ x ∈ xs, fits a b c x.x x.y x.z x.r g = true) → outsN a b c g k xs = [] := by
  intro xs
  induction xs with
  | nil => intro k _; rfl
  | cons x xs ih =>
    intro k h
    simp only [outsN, h x (by simp), if_true]
    exact ih _ fun y hy => h y (by simp [hy])
theorem allF_nil {xs : List PlaceR} {g : Int} (h : ∀ (i j : Nat) (h1 : i < j) (h2 : j < xs.length), g ≤ clP (xs[i]'(by omega)) xs[j]) : allF xs g xs.length = [] := by
  unfold allF
  rw [List.flatMap_eq_nil_iff]
  intro i hi
  rw [List.mem_range] at hi
  unfold rowF
  rw [List.map_eq_nil_iff, List.filter_eq_nil_iff]
  intro j hj
  rw [List.mem_range] at hj
  by_cases hij : i < j
  · have := h i j hij hj
    rw [tooNear_eq hi hj]
    simp
    omega
  · simp [hij]
theorem laid_law {a1 a2 a3 g sp z : Int} {rs : List Int} {l : List PlaceR} (hL : Ly.Laid (freeB a1 a2 a3 g) (lyP sp z rs) (lyN a1 sp) (lyN a2 sp) l) (hlen : l.length = rs.length) (h24 : rs.length ≤ 24) (hr : ∀ r ∈ rs, inB r 1 5000 = true) (hc : vCh a1 a2 a3 = true) (hz : inB z 0 20000 = true) (hsp : 1 ≤ sp) (hg : inB g 0 5000 = true) :
    rowsB vPlaceR PlaceR.nm 24 l = true ∧ (∀ x ∈ l, x.nm.size ≤ 100) ∧ clearB a1 a2 a3 g l = true ∧ outOf a1 a2 a3 g l = ([], 0) ∧
    ∀ (k : Nat) (h : k < l.length), ∃ i j : Nat, l[k] = lyP sp z rs k i j ∧ fitsAll a1 a2 a3 l[k].nm l[k].x l[k].y l[k].z l[k].r g = true := by
  obtain ⟨⟨b1, b2⟩, ⟨b3, b4⟩, -⟩ := vCh_true _ _ _ hc
  have hv : ∀ (k : Nat) (h : k < l.length), vPlaceR l[k] = true := fun k h => by
    obtain ⟨i, j, hi, hj, e, -⟩ := hL k h
    rw [e]
    exact lyP_ok (by omega) h24 hr b2 b4 (show 0 ≤ sp by omega) ((lyN_iff (by omega) hsp i).1 hi) ((lyN_iff (by omega) hsp j).1 hj) hz
  have hnm : ∀ (k : Nat) (h : k < l.length), l[k].nm = lyNm k := fun k h => by
    obtain ⟨i, j, hi, hj, e, -⟩ := hL k h
    rw [e]; rfl
  have hfit : ∀ (k : Nat) (h : k < l.length), fits a1 a2 a3 l[k].x l[k].y l[k].z l[k].r g = true := fun k h => by
    obtain ⟨i, j, hi, hj, -, hf⟩ := hL k h
    exact (freeB_true hf).1
  have hrow : rowsB vPlaceR PlaceR.nm 24 l = true := by
    rw [rowsB_fin]
    · simp; omega
    · rintro k hk ⟨_, a | ⟨h0, a⟩⟩
      · rw [hv k hk] at a; cases a
      · rw [hnm k hk, hnm (k - 1) (by omega)] at a
        rw [(lyNm_ok ⟨k, by omega⟩).2.2 h0] at a; cases a
  have ho : outsN a1 a2 a3 g 0 l = [] := outsN_nil l 0 fun x hx => by
    obtain ⟨k, hk, rfl⟩ := List.getElem_of_mem hx
    exact hfit k hk
  have ha : allF l g l.length = [] := allF_nil fun i j h1 h2 => by
    obtain ⟨i', j', hi, hj, -, hf⟩ := hL j h2
    have q := nearB_room (freeB_true hf).2 i (by rw [List.length_take]; omega)
    rw [List.getElem_take] at q
    rw [clP_comm]
    exact q
  refine ⟨hrow, fun x hx => ?_, ?_, ?_, fun k h => ?_⟩
  · obtain ⟨k, hk, rfl⟩ := List.getElem_of_mem hx
    rw [hnm k hk]
    exact (lyNm_ok ⟨k, by omega⟩).2.1
  · unfold clearB
    rw [hc, hrow, hg, ho, ha]
    rfl
  · rw [outOf_4 hc hrow hg, ho]
  · obtain ⟨i, j, hi, hj, e, hf⟩ := hL k h
    refine ⟨i, j, ?_, ?_⟩
    · exact e
    · have h1 := hv k h
      have h2 := hfit k h
      unfold vPlaceR at h1
      unfold fitsAll
      rw [hc, h1, hg, h2]
      rfl
/-- What the program answers where all is in range. -/
theorem layR_law {a1 a2 a3 g sp z bud : Int} {l : List PlaceR} {rs : List Int} {code : Int} (h : layR a1 a2 a3 rs g sp z bud = (l, code)) (h24 : rs.length ≤ 24) (hr : ∀ r ∈ rs, inB r 1 5000 = true) (hc : vCh a1 a2 a3 = true) (hz : inB z 0 20000 = true) (hsp : inB sp 1 20000 = true) (hg : inB g 0 5000 = true) (hb : inB bud 1 20000 = true) :
    code = 3 ∨ code = 5 ∨ (code = 0 ∧ l.length = rs.length ∧ Ly.Laid (freeB a1 a2 a3 g) (lyP sp z rs) (lyN a1 sp) (lyN a2 sp) l) := by
  rw [lay_4 hc h24 hr hg hsp hz hb] at h
  split at h
  · injection h with h1 h2; omega
  · split at h
    · injection h with h1 h2; omega
    · split at h
      · rename_i hgot
        injection h with h1 h2
        have := lastL_fine hgot
        subst h1
        exact .inr (.inr ⟨h2.symm, this.2, this.1⟩)
      · injection h with h1 h2; omega
theorem lawsr8AtN (B : Nat) (A : Option Addr) (n c k : Nat) (m : Int) (w : World) (h : ByAt w B A n) (_hk : k ≤ 1000) (_hn : n ≤ 9223372036854775807) (m0 : 2 ≤ m) (m1 : m ≤ 1000000) :
    Calls Try.prog 62 #[.slice A n c, .int .i64 k, .int .i64 m] w fun e w' => ∃ r : Int, e = .returned (.int .i64 r) ∧ 0 ≤ r ∧ r < m ∧ w = w' := by
  by_cases hl : k < n
  · obtain ⟨b, off, x, rfl, _, hx, x0, x1⟩ := h k hl
    clear h
    go_enter Try.func62, Try.ntmps62
    go_wp2
    go_ret
    exact ⟨_, rfl, Int.emod_nonneg _ (by omega), Int.emod_lt_of_pos x (show (0 : Int) < m by omega), rfl⟩
  · clear h
    go_enter Try.func62, Try.ntmps62
    go_wp2
    go_ret
    exact ⟨0, rfl, by omega, by omega, rfl⟩
set_option maxRecDepth 100000 in
set_option maxHeartbeats 1000000 in
theorem lawFnLayout (A : Option Addr) (n c : Nat) (w : World) (h : ByAt w w.heap.size A n) (hn : n ≤ 9223372036854775807) :
    Calls Try.prog 12 #[.slice A n c] w fun e w' => e = .returned (.bool true) ∧ Below w.heap.size w w' := by
  have HX := hide h
  clear h
  by_cases hq : (1048576 : Int) < n
  · go_enter Try.func12, Try.ntmps12
    go_wp2_with fail
    go_ret
    exact ⟨rfl, (by repeat (first | with_reducible exact Below.refl _ _ | with_reducible assumption | (with_reducible refine Below.drew ?_) | (with_reducible refine below_drewN ?_ _) | ((with_reducible refine Below.alloc ?_ ?_ _); rotate_left; (focus (first | omega | (simp; omega) | simp))) | ((with_reducible refine Below.setCell ?_ ?_ _); rotate_left; (focus (first | omega | (simp; omega) | simp))) | (refine Below.trans ?_ (Below.mono (by assumption) (by first | omega | (simp; omega) | simp)))))⟩
  · go_enter Try.func12, Try.ntmps12
    go_wp2_with fail
    refine (lawsr8AtN w.heap.size A n c 0 200 _ HX.out (by omega) hn (by omega) (by omega)).mono ?_
    rintro e w1 ⟨r0, rfl, a0, b0, rfl⟩
    go_wp2_with fail
    refine (lawsr8AtN w.heap.size A n c 1 200 _ HX.out (by omega) hn (by omega) (by omega)).mono ?_
    rintro e w1 ⟨r1, rfl, a1, b1, rfl⟩
    have HX1 := hide (HX.out.alloc (Nat.le_refl _) (.cells #[.int .i64 (1500 + 10 * r0), .int .i64 (1500 + 10 * r1), .int .i64 2400] 86))
    go_wp2_with fail
    refine (lawsr8AtN w.heap.size A n c 2 200 _ HX1.out (by omega) hn (by omega) (by omega)).mono ?_
    rintro e w1 ⟨r2, rfl, a2, b2, rfl⟩
    go_wp2_with fail
    refine (lawsr8AtN w.heap.size A n c 3 200 _ HX1.out (by omega) hn (by omega) (by omega)).mono ?_
    rintro e w1 ⟨r3, rfl, a3, b3, rfl⟩
    have HX2 := hide (HX1.out.alloc (by simp) (.cells #[.int .i64 (300 + r2), .int .i64 (300 + r3), .int .i64 200] 2))
    go_wp2_with fail
    refine (lawsr8AtN w.heap.size A n c 4 120 _ HX2.out (by omega) hn (by omega) (by omega)).mono ?_
    rintro e w1 ⟨r4, rfl, a4, b4, rfl⟩
    go_wp2_with fail
    have hw1 : (w.alloc (.cells #[.int .i64 (1500 + 10 * r0), .int .i64 (1500 + 10 * r1), .int .i64 2400] 86)).heap.size = w.heap.size + 1 := by simp
    have hsl := slat_new (enc := encI) (sz := 1) (fun _ => rfl) (w.alloc (.cells #[.int .i64 (1500 + 10 * r0), .int .i64 (1500 + 10 * r1), .int .i64 2400] 86)) [300 + r2, 300 + r3, 200] #[.int .i64 (300 + r2), .int .i64 (300 + r3), .int .i64 200] 2 rfl
    rw [hw1] at hsl
    have HSL := hide hsl
    have hc : vCh (1500 + 10 * r0) (1500 + 10 * r1) 2400 = true := by unfold vCh inB; simp; omega
    have hg : inB r4 0 5000 = true := inB_mk (by omega) (by omega)
    have hr : ∀ r ∈ [300 + r2, 300 + r3, 200], inB r 1 5000 = true := fun r h => by
      simp at h
      exact inB_mk (by omega) (by omega)
    have HC := hide hc
    have HG := hide hg
    have HR := hide hr
    clear hc hg hr hw1 hsl
    refine (implFirstLayout (1500 + 10 * r0) (1500 + 10 * r1) 2400 (some ⟨w.heap.size + 1, 0, none⟩) 3 [300 + r2, 300 + r3, 200] r4 250 1200 60 _ HSL.out (by simp)).mono ?_
    rintro e w2 ⟨A1, c1, l, code, rfl, hlay, hl, ho, hb2⟩
    have HA2 := hide (Own.at_ (enc := encPlace) (sz := 5) (fun _ => rfl) ho)
    have hch := hb2.block w.heap.size (by simp; omega)
    have hrs := hb2.block (w.heap.size + 1) (by simp)
    have HCH := hide (show w2.heap[w.heap.size]? = some (.cells #[.int .i64 (1500 + 10 * r0), .int .i64 (1500 + 10 * r1), .int .i64 2400] 86 (0, 0)) from hch.trans ((heap_alloc_old _ _ (by simp)).trans (heap_alloc_new w _)))
    have HRS := hide (show w2.heap[w.heap.size + 1]? = some (.cells #[.int .i64 (300 + r2), .int .i64 (300 + r3), .int .i64 200] 2 (0, 0)) from hrs.trans (by have q := heap_alloc_new (w.alloc (.cells #[.int .i64 (1500 + 10 * r0), .int .i64 (1500 + 10 * r1), .int .i64 2400] 86)) (.cells #[.int .i64 (300 + r2), .int .i64 (300 + r3), .int .i64 200] 2); simpa using q))
    have HB2 := hide (((((Below.refl w.heap.size w).alloc (Nat.le_refl _) (.cells #[.int .i64 (1500 + 10 * r0), .int .i64 (1500 + 10 * r1), .int .i64 2400] 86)).alloc (by simp) (.cells #[.int .i64 (300 + r2), .int .i64 (300 + r3), .int .i64 200] 2))).trans (hb2.mono (by simp; omega)))
    have hz2 : w.heap.size + 1 < w2.heap.size := by have := hb2.size; simp at this; omega
    have hlaw := layR_law hlay (by simp) HR.out HC.out (by decide) (by decide) HG.out (by decide)
    clear hlay ho hch hrs hb2 HSL HX1 HX2 HX
    rcases hlaw with rfl | rfl | ⟨rfl, hlen, hlaid⟩
    · go_wp2_with fail
      go_ret
      exact ⟨rfl, HB2.out⟩
    · go_wp2_with fail
      go_ret
      exact ⟨rfl, HB2.out⟩
    · obtain ⟨l1, l2, l3, l4, l5⟩ := laid_law hlaid hlen (by simp) HR.out HC.out (by decide) (by omega) HG.out
      have hlen3 : l.length = 3 := hlen
      have hd : ((l.length : Int) != 3) = false := by simp; omega
      have hd2 : (l.length != 3) = false := by simp; omega
      have HS := hide (show ∀ x ∈ l, x.nm.size ≤ maxLen from fun x hx => Nat.le_trans (l2 x hx) (by decide))
      have L3 := hide l3
      have L4 := hide l4
      have L5 := hide l5
      have HLEN := hide hlen3
      clear hlen hlaid l1 l2 l3 l4 l5 hlen3
      have h2 := HCH.out
      have c0 : w2.cell? ⟨w.heap.size, 0, none⟩ = some (.int .i64 (1500 + 10 * r0)) := by simp [World.cell?, h2]
      have c1' : w2.cell? ⟨w.heap.size, 1, none⟩ = some (.int .i64 (1500 + 10 * r1)) := by simp [World.cell?, h2]
      have c2 : w2.cell? ⟨w.heap.size, 2, none⟩ = some (.int .i64 2400) := by simp [World.cell?, h2]
      clear h2
      go_wp2_with fail
      refine (implIsClear (1500 + 10 * r0) (1500 + 10 * r1) 2400 A1 c1 l r4 _ HA2.out hl HS.out).mono ?_
      rintro e w3 ⟨rfl, hb3⟩
      rw [L3.out]
      have HA3 := hide (HA2.out.below hb3)
      have HCH3 := hide ((hb3.block w.heap.size (by omega)).trans HCH.out)
      have HRS3 := hide ((hb3.block (w.heap.size + 1) (by omega)).trans HRS.out)
      have HB3 := hide (HB2.out.trans (hb3.mono (by omega)))
      have hz3 : w.heap.size + 1 < w3.heap.size := Nat.lt_of_lt_of_le hz2 hb3.size
      clear hb3 HA2 HCH HRS HB2 c0 c1' c2
      go_wp2_with fail
      clear hd hd2
      go_loopw [8] (fun v wr => ∃ k : Nat, v = .int .i64 k ∧ k ≤ l.length ∧ Hid (Below w3.heap.size w3 wr)) (fun v _ => l.length - (intOf v).toNat)
      case atStart => exact ⟨0, rfl, by omega, hide (Below.refl _ _)⟩
      case round =>
        obtain ⟨k, rfl, hk, HB⟩ := hrel
        have hzr := HB.out.size
        have h2 := (HB.out.block w.heap.size (by omega)).trans HCH3.out
        have h3 := (HB.out.block (w.heap.size + 1) (by omega)).trans HRS3.out
        have c0 : wr.cell? ⟨w.heap.size, 0, none⟩ = some (.int .i64 (1500 + 10 * r0)) := by simp [World.cell?, h2]
        have c1' : wr.cell? ⟨w.heap.size, 1, none⟩ = some (.int .i64 (1500 + 10 * r1)) := by simp [World.cell?, h2]
        have c2 : wr.cell? ⟨w.heap.size, 2, none⟩ = some (.int .i64 2400) := by simp [World.cell?, h2]
        have w0z : w.heap.size < wr.heap.size := by omega
        have w1z : w.heap.size + 1 < wr.heap.size := by omega
        by_cases hlt : k < l.length
        · obtain ⟨bq, oq, rfl, hbq, hc⟩ := (HA3.out.below HB.out) k hlt
          obtain ⟨i, j, he, hfa⟩ := L5.out k hlt
          have hk3 : k < 3 := by have := HLEN.out; omega
          rw [lyP_eq (rs := [300 + r2, 300 + r3, 200]) (show k < [300 + r2, 300 + r3, 200].length from hk3) rfl rfl] at he
          have hrk : wr.cell? ⟨w.heap.size + 1, k, none⟩ = some (.int .i64 ([300 + r2, 300 + r3, 200][k])) := by
            match k, hk3 with
            | 0, _ => simp [World.cell?, h3]
            | 1, _ => simp [World.cell?, h3]
            | 2, _ => simp [World.cell?, h3]
          have hnms := HS.out l[k] (List.getElem_mem hlt)
          have hc0 := hc 0 _ rfl
          have hc1 := hc 1 _ rfl
          have hc2 := hc 2 _ rfl
          have hc3 := hc 3 _ rfl
          have hc4 := hc 4 _ rfl
          simp only [Nat.add_zero] at hc0
          rw [he] at hc0 hc1 hc2 hc3 hc4 hfa hnms
          clear hc he h2 h3
          generalize [300 + r2, 300 + r3, 200][k] = rk at *
          generalize lyNm k = nm at *
          simp only at hc0 hc1 hc2 hc3 hc4 hfa hnms
          obtain ⟨x, hx⟩ : ∃ x : Int, x = 250 * (i : Int) := ⟨_, rfl⟩
          obtain ⟨y, hy⟩ : ∃ y : Int, y = 250 * (j : Int) := ⟨_, rfl⟩
          rw [← hx] at hc1 hfa
          rw [← hy] at hc2 hfa
          have x0 : 0 ≤ x := by omega
          have y0 : 0 ≤ y := by omega
          have xm : x % 250 = 0 := by omega
          have ym : y % 250 = 0 := by omega
          have xt : x.tmod 250 = 0 := by rw [IntWalk.rem_in x 250 x0]; exact xm
          have yt : y.tmod 250 = 0 := by rw [IntWalk.rem_in y 250 y0]; exact ym
          have kk : (k : Int) < 3 := by omega
          have HFA := hide hfa
          clear hx hy hfa
          go_wp2_with fail
          refine wp_region_kept (by kernel_rfl) (by kernel_rfl) ?_
          intro gc gf gz
          repeat (go_big_quiet_step ((go_at_call 64; exact Calls.kept (implFitsChamber (1500 + 10 * r0) (1500 + 10 * r1) 2400 nm x y 1200 rk r4 _ hnms))))
          refine wpQuiet_nil ?_
          intro w4 hw'
          obtain ⟨⟨_, hb4⟩, rfl⟩ := hw'
          clear gc gf gz
          try dsimp only
          have fs4 := hb4.size
          try simp at fs4 hb4
          rw [HFA.out]
          have HB4 := hide (HB.out.trans (hb4.mono (by omega)))
          clear hb4 xm ym xt yt
          go_wp2_with fail
          go_roundw
          case rel => exact ⟨k + 1, by go_num, by omega, HB4⟩
          case measure => simp [intOf]; omega
        · clear h2 h3
          go_wp2_with fail
          refine (implOutsideOf (1500 + 10 * r0) (1500 + 10 * r1) 2400 A1 c1 l r4 _ (HA3.out.below HB.out) hl HS.out).mono ?_
          rintro e w5 ⟨A5, c5, ys, code5, rfl, hout, hl5, ho5, hb5⟩
          obtain ⟨rfl, rfl⟩ := pair_det hout L4.out
          have HB5 := hide (HB3.out.trans ((HB.out.trans (hb5.mono (by omega))).mono (by omega)))
          clear hb5 ho5 hout
          go_wp2_with fail
          go_ret
          exact ⟨rfl, HB5.out⟩
end Go.Proofs.Ytjklhacffdhgaaa
