/- The program's search for a layout: the way that tries places. -/
import Derived.Test.YtjklhacffdhgaaaLyI
namespace Go.Proofs.Ytjklhacffdhgaaa
open Go.RowKit

theorem lyP_eq {sp z : Int} {rs : List Int} {k i j : Nat} (hk : k < rs.length) {nm : ByteArray} {rk : Int} (hn : nm = lyNm k) (hr : rk = rs[k]) : lyP sp z rs k i j = ⟨nm, sp * i, sp * j, z, rk⟩ := by
  subst hn; subst hr
  unfold lyP
  rw [List.getD_eq_getElem?_getD, List.getElem?_eq_getElem hk]
  rfl
theorem now_no {l : List PlaceR} {s : Ly.S PlaceR} (h : s.got = false) : Ly.now l s = l := by unfold Ly.now; rw [h]; rfl
theorem ly_ended_got {s : Ly.S PlaceR} (h : s.got = true) : Ly.ended s = true := by unfold Ly.ended; rw [h]; simp
theorem mul_succ' (a : Int) (i : Nat) : a * ((i + 1 : Nat) : Int) = a * i + a := by rw [Int.natCast_add, Int.mul_add]; simp
/-- A round of the program's search: the struct in block b, the place that is tried in block qb. -/
structure LyR (w0 : World) (b : Nat) (A : Option Addr) (n c : Nat) (a1 a2 a3 g sp z : Int) (w : World) (qb : Nat) (nm : ByteArray) (rk : Int) (pv : Option Addr) (pc : Nat) (l : List PlaceR) (wr : World) (pv' : Option Addr) (pc' : Nat) (s' : Ly.S PlaceR) (x y : Int) : Prop where
  hs : LyI w0 b A n c a1 a2 a3 g sp z wr pv' pc' l s'
  q : wr.heap[qb]? = some (.cells #[.string nm, .int .i64 x, .int .i64 y, .int .i64 z, .int .i64 rk] 95 (0, 0))
  fr : Fr b w wr (.slice pv l.length pc) (.slice pv' l.length pc')
  ne : (Value.slice pv' l.length pc').ownBlock ≠ some qb
  q0 : w.heap.size ≤ qb
  w0w : w0.heap.size ≤ w.heap.size
  bw : b < w.heap.size
section
variable {w0 : World} {b : Nat} {A : Option Addr} {n c : Nat} {a1 a2 a3 g sp z : Int} {w : World} {qb : Nat} {nm : ByteArray} {rk : Int} {pv : Option Addr} {pc : Nat} {l : List PlaceR} {wr wr' : World} {pv' : Option Addr} {pc' : Nat} {s' : Ly.S PlaceR} {x y : Int}
theorem LyR.below (h : LyR w0 b A n c a1 a2 a3 g sp z w qb nm rk pv pc l wr pv' pc' s' x y) (hb : Below wr.heap.size wr wr') : LyR w0 b A n c a1 a2 a3 g sp z w qb nm rk pv pc l wr' pv' pc' s' x y :=
  ⟨h.hs.below hb, (hb.block qb (heap_lt h.q)).trans h.q, h.fr.below hb, h.ne, h.q0, h.w0w, h.bw⟩
theorem LyR.drew (h : LyR w0 b A n c a1 a2 a3 g sp z w qb nm rk pv pc l wr pv' pc' s' x y) : LyR w0 b A n c a1 a2 a3 g sp z w qb nm rk pv pc l wr.drew pv' pc' s' x y := h.below (Below.refl _ _).drew
theorem LyR.setX (h : LyR w0 b A n c a1 a2 a3 g sp z w qb nm rk pv pc l wr pv' pc' s' x y) (x' : Int) : LyR w0 b A n c a1 a2 a3 g sp z w qb nm rk pv pc l (wr.setCell ⟨qb, 1, none⟩ (.int .i64 x')) pv' pc' s' x' y :=
  ⟨h.hs.other (Nat.le_trans h.w0w h.q0) (by have := h.q0; have := h.bw; omega) h.ne _ _, heap_set' _ h.q, h.fr.new h.q0 _ _, h.ne, h.q0, h.w0w, h.bw⟩
theorem LyR.setY (h : LyR w0 b A n c a1 a2 a3 g sp z w qb nm rk pv pc l wr pv' pc' s' x y) (y' : Int) : LyR w0 b A n c a1 a2 a3 g sp z w qb nm rk pv pc l (wr.setCell ⟨qb, 2, none⟩ (.int .i64 y')) pv' pc' s' x y' :=
  ⟨h.hs.other (Nat.le_trans h.w0w h.q0) (by have := h.q0; have := h.bw; omega) h.ne _ _, heap_set' _ h.q, h.fr.new h.q0 _ _, h.ne, h.q0, h.w0w, h.bw⟩
end
theorem new_block {w1 : World} {o : Obj} {q : Nat} (h : q = w1.heap.size) : (w1.alloc o).drew.heap[q]? = some o := by subst h; exact heap_alloc_new _ _
set_option maxRecDepth 100000 in
set_option maxHeartbeats 4000000 in
theorem search_goes (w0 : World) (b : Nat) (A : Option Addr) (c : Nat) (a1 a2 a3 g sp z : Int) (rs : List Int) (HX : Hid (SlAt encI 1 w0 A rs)) (HR : Hid (∀ r ∈ rs, inB r 1 5000 = true)) (h24 : rs.length ≤ 24) (HC : Hid (vCh a1 a2 a3 = true)) (HG : Hid (inB g 0 5000 = true)) (HSP : Hid (inB sp 1 20000 = true)) (HZ : Hid (inB z 0 20000 = true))
    (f : Nat) (ih : SearchOK w0 b A c a1 a2 a3 g sp z rs f) (left : Int) (list : List PlaceR) (l : List PlaceR) (w : World) (pv : Option Addr) (pc : Nat)
    (HS : Hid (LyI w0 b A rs.length c a1 a2 a3 g sp z w pv pc l ⟨left, false, false, list⟩)) (HL : Hid (GoodL l)) (h0 : left ≠ 0) (hl : l.length < rs.length) (hf : rs.length < f + 1 + l.length) :
    Calls Try.prog 129 #[.pointer (some ⟨b, 0, none⟩)] w (SearchPost w0 b A c a1 a2 a3 g sp z rs (f + 1) l ⟨left, false, false, list⟩ pv pc w) := by
  obtain ⟨⟨c1, c2⟩, ⟨c3, c4⟩, -⟩ := vCh_true _ _ _ HC.out
  obtain ⟨s1, s2⟩ := inB_true HSP.out
  have E1 := hide (show lyVisit a1 a2 a3 g sp z rs (f + 1) l ⟨left, false, false, list⟩ = Ly.rounds (Ly.col (freeB a1 a2 a3 g) (lyP sp z rs) rs.length (lyN a1 sp) (lyN a2 sp) f l) (lyN a1 sp) 0 ⟨left - 1, false, false, list⟩ from Ly.visit_goes rfl h0 (by omega))
  obtain ⟨nx, hnx⟩ : ∃ nx, nx = lyN a1 sp := ⟨_, rfl⟩
  obtain ⟨ny, hny⟩ : ∃ ny, ny = lyN a2 sp := ⟨_, rfl⟩
  have IX := hide (fun i : Nat => hnx ▸ lyN_iff (a := a1) (st := sp) (by omega) s1 i)
  have IY := hide (fun i : Nat => hny ▸ lyN_iff (a := a2) (st := sp) (by omega) s1 i)
  have nx0 : nx ≤ 20001 := by rw [hnx]; exact lyN_le (by omega) c2
  have ny0 : ny ≤ 20001 := by rw [hny]; exact lyN_le (by omega) c4
  have HNX := hide hnx
  have HNY := hide hny
  clear hnx hny
  have hst := HS.out.st
  simp only at hst
  have g0 : w.cell? ⟨b, 0, none⟩ = some (.int .i64 left) := by simp [World.cell?, hst]
  have g1 : w.cell? ⟨b, 1, none⟩ = some (.bool false) := by simp [World.cell?, hst]
  have g5 : w.cell? ⟨b, 5, none⟩ = some (.slice A rs.length c) := by simp [World.cell?, hst]
  have g8 : w.cell? ⟨b, 8, none⟩ = some (.int .i64 z) := by simp [World.cell?, hst]
  have g9 : w.cell? ⟨b, 9, none⟩ = some (.slice pv l.length pc) := by simp [World.cell?, hst]
  have f0 : w.frozen? ⟨b, 0, none⟩ = false := by simp [World.frozen?, hst]
  have hbl := HS.out.lt
  have hwb := HS.out.bel.size
  have hb0 := HS.out.hb
  obtain ⟨i0, i1⟩ := HS.out.inv
  simp only at i0 i1
  have HN0 := hide (node_some b left w h0 i0 (by omega) g0 f0)
  have HS1 := hide (HS.out.node h0)
  have F1 := hide (Fr.set (b := b) (w := w) (v := .slice pv l.length pc) Fr.refl 0 (.int .i64 (left - 1)))
  obtain ⟨bq, oq, hA, hbq, hc⟩ := HX.out l.length hl
  subst hA
  have hq0 := (HS.out.bel.cell (p := ⟨bq, oq + l.length * 1 + 0, none⟩) hbq).trans (hc 0 _ rfl)
  simp only [Nat.add_zero, Nat.mul_one] at hq0
  clear hc
  obtain ⟨rk, hrk⟩ : ∃ rk, rk = rs[l.length] := ⟨_, rfl⟩
  rw [← hrk] at hq0
  obtain ⟨nm, hnm⟩ : ∃ nm, nm = lyNm l.length := ⟨_, rfl⟩
  have HP := hide (fun i j : Nat => lyP_eq (sp := sp) (z := z) (i := i) (j := j) hl hnm hrk)
  have HV := hide (fun (i j : Nat) (q1 : sp * i ≤ a1) (q2 : sp * j ≤ a2) => lyP_ok (k := l.length) hl h24 HR.out c2 c4 (show 0 ≤ sp by omega) q1 q2 HZ.out)
  have hl24 : l.length < 24 := by omega
  have kU : Utf8.encode (97 + (l.length : Int)) = ⟨[UInt8.ofNat (97 + l.length)].toArray⟩ := by simpa using utf_lyNm ⟨l.length, hl24⟩
  have k2 := fun W => run_string_add_sum (P := Try.prog) W ⟨[98].toArray⟩ ⟨[UInt8.ofNat (97 + l.length)].toArray⟩ (by simp [ByteArray.size])
  simp only [mk_app, List.cons_append, List.nil_append] at k2
  have hnm2 : (⟨[98, UInt8.ofNat (97 + l.length)].toArray⟩ : ByteArray) = nm := hnm.symm
  rw [hnm2] at k2
  generalize UInt8.ofNat (97 + l.length) = d at *
  have kw : IntKind.i32.wrap (97 + (l.length : Int)) = 97 + (l.length : Int) := IntWalk.i32_in _ (by omega)
  have kv : IntKind.i64.wrap (97 + (l.length : Int)) = 97 + (l.length : Int) := IntWalk.i64_in _ (by omega)
  have hd : ((l.length : Int) == (rs.length : Int)) = false := by simp; omega
  have hd2 : (l.length == rs.length) = false := by simp; omega
  have hnb := HS.out.oc.lt
  have HNB := hide hnb
  clear hnb
  have hne : ¬ bq = b := by omega
  have hbqw : bq < w.heap.size := by omega
  have HH0 := hide h0
  clear hst h0 HS hnm2 hnm hrk
  go_enter Try.func129, Try.ntmps129
  go_upto_region 6 with (go_at_call 165; refine HN0.out.mono ?_; rintro e w2 ⟨rfl, rfl⟩)
  go_cut [4] (fun s4 wx => ∃ qb, s4 = .pointer (some ⟨qb, 0, none⟩) ∧ w.heap.size ≤ qb ∧ Hid (wx.heap[qb]? = some (.cells #[.string nm, .int .i64 0, .int .i64 0, .int .i64 z, .int .i64 rk] 95 (0, 0))) ∧ Hid (LyI w0 b (some ⟨bq, oq, none⟩) rs.length c a1 a2 a3 g sp z wx pv pc l ⟨left - 1, false, false, list⟩) ∧ Hid (Fr b w wx (.slice pv l.length pc) (.slice pv l.length pc)))
  case first =>
    go_region
    all_goals
      go_wp2_with fail
      go_meet
      exact ⟨w.heap.size, rfl, Nat.le_refl _, hide (new_block (by simp [World.setCell])), hide (HS1.out.below ((Below.refl _ _).alloc (Nat.le_refl _) _).drew), hide (F1.out.below ((Below.refl _ _).alloc (Nat.le_refl _) _).drew)⟩
  case rest =>
    obtain ⟨w2, rfl⟩ : ∃ w2, w2 = wc := ⟨_, rfl⟩
    obtain ⟨qb, rfl, hqb, HQ, HS2, HF2⟩ := hcut
    have hq1 := HQ.out
    have hqz := heap_lt HQ.out
    have y1 : w2.cell? ⟨qb, 1, none⟩ = some (.int .i64 0) := by simp [World.cell?, hq1]
    have z1 : w2.frozen? ⟨qb, 1, none⟩ = false := by simp [World.frozen?, hq1]
    have hqb2 : qb ≠ b := by omega
    have HNQ := hide (show (Value.slice pv l.length pc).ownBlock ≠ some qb from fun e => by have := HNB.out qb e; omega)
    clear hq1 HS1 F1 HN0 g0 g1 g5 g8 g9 f0 k2 kU kw kv hq0 d
    go_wp2_with fail
    obtain ⟨fin, hfin⟩ : ∃ fin, fin = lyVisit a1 a2 a3 g sp z rs (f + 1) l ⟨left, false, false, list⟩ := ⟨_, rfl⟩
    have E2 := hide (show Ly.rounds (Ly.col (freeB a1 a2 a3 g) (lyP sp z rs) rs.length nx ny f l) (nx - 0) 0 ⟨left - 1, false, false, list⟩ = fin from by rw [hfin, E1.out, HNX.out, HNY.out]; rfl)
    have HFIN := hide hfin
    have HR0 := hide (show LyR w0 b (some ⟨bq, oq, none⟩) rs.length c a1 a2 a3 g sp z w qb nm rk pv pc l w2 pv pc ⟨left - 1, false, false, list⟩ 0 0 from ⟨HS2.out, HQ.out, HF2.out, HNQ.out, hqb, hwb, hbl⟩)
    clear hfin E1 HS2 HQ HF2 HNQ y1 z1 hqz
    go_loopg [] nx (fun gk wr => ∃ (i : Nat) (s' : Ly.S PlaceR) (pv' : Option Addr) (pc' : Nat) (x y : Int), gk + i = nx ∧ s'.got = false ∧ Hid (x = sp * (i : Int)) ∧ Hid (LyR w0 b (some ⟨bq, oq, none⟩) rs.length c a1 a2 a3 g sp z w qb nm rk pv pc l wr pv' pc' s' x y) ∧ Hid (Ly.rounds (Ly.col (freeB a1 a2 a3 g) (lyP sp z rs) rs.length nx ny f l) (nx - i) i s' = fin))
    case atStart => exact ⟨0, _, pv, pc, 0, 0, by omega, rfl, hide (by simp), hide (HR0.out.setX 0), E2⟩
    case round =>
      clear HR0 E2
      obtain ⟨i, s', pv', pc', x, y, hgi, hgot, HXX, HRR, HF⟩ := hrel
      have hst := HRR.out.hs.st
      have hqq := HRR.out.q
      have g2 : wr.cell? ⟨b, 2, none⟩ = some (.int .i64 a1) := by simp [World.cell?, hst]
      have y1 : wr.cell? ⟨qb, 1, none⟩ = some (.int .i64 x) := by simp [World.cell?, hqq]
      have hqz := heap_lt hqq
      have hblr := heap_lt hst
      clear hst hqq
      by_cases hi : i < nx
      · have hle : x ≤ a1 := by rw [HXX.out]; exact (IX.out i).1 hi
        have hdec : decide (x ≤ a1) = true := by simpa using hle
        have hx0 : 0 ≤ x := by rw [HXX.out]; exact Int.mul_nonneg (by omega) (by omega)
        have HFM := hide (show Ly.rounds (Ly.col (freeB a1 a2 a3 g) (lyP sp z rs) rs.length nx ny f l) (nx - (i + 1)) (i + 1) (Ly.rounds (Ly.cell (freeB a1 a2 a3 g) (lyP sp z rs) rs.length nx ny f l i) (ny - 0) 0 s') = fin from by rw [← HF.out, Ly.rounds_more hi]; rfl)
        clear HF
        go_wp2_with fail
        refine wp_region_kept (by kernel_rfl) (by kernel_rfl) ?_
        intro gc gf gz
        repeat (go_big_quiet_step (fail))
        refine wpQuiet_nil ?_
        intro w3 hw'
        obtain ⟨⟨_, hb3⟩, rfl⟩ := hw'
        clear gc gf gz
        try dsimp only
        have fs3 := hb3.size
        try simp at fs3 hb3
        have HR3 := hide (HRR.out.below hb3)
        have hqq := HR3.out.q
        have y2 : w3.cell? ⟨qb, 2, none⟩ = some (.int .i64 y) := by simp [World.cell?, hqq]
        have z2 : w3.frozen? ⟨qb, 2, none⟩ = false := by simp [World.frozen?, hqq]
        have HR4 := hide (HR3.out.setY 0)
        clear HRR hqq hb3 fs3 g2 y1 hqz hblr hdec
        go_wp2_with fail
        clear y2 z2 HR3
        go_loopg [] ny (fun gj wj => ∃ (j : Nat) (s' : Ly.S PlaceR) (pv' : Option Addr) (pc' : Nat) (y : Int), gj + j = ny ∧ s'.got = false ∧ Hid (y = sp * (j : Int)) ∧ Hid (LyR w0 b (some ⟨bq, oq, none⟩) rs.length c a1 a2 a3 g sp z w qb nm rk pv pc l wj pv' pc' s' x y) ∧ Hid (Ly.rounds (Ly.col (freeB a1 a2 a3 g) (lyP sp z rs) rs.length nx ny f l) (nx - (i + 1)) (i + 1) (Ly.rounds (Ly.cell (freeB a1 a2 a3 g) (lyP sp z rs) rs.length nx ny f l i) (ny - j) j s') = fin))
        case atStart => exact ⟨0, s', pv', pc', 0, by omega, hgot, hide (by simp), HR4, HFM⟩
        case round =>
          clear HR4 HFM
          obtain ⟨j, s2, pv2, pc2, y2, hgj, hgot2, HYY, HRR, HF⟩ := hrel
          have hst := HRR.out.hs.st
          have hqq := HRR.out.q
          have g3 : wr.cell? ⟨b, 3, none⟩ = some (.int .i64 a2) := by simp [World.cell?, hst]
          have w2' : wr.cell? ⟨qb, 2, none⟩ = some (.int .i64 y2) := by simp [World.cell?, hqq]
          have hqz := heap_lt hqq
          have hblr := heap_lt hst
          clear hst hqq
          by_cases hj : j < ny
          · have hle2 : y2 ≤ a2 := by rw [HYY.out]; exact (IY.out j).1 hj
            have hdec : decide (y2 ≤ a2) = true := by simpa using hle2
            have hy0 : 0 ≤ y2 := by rw [HYY.out]; exact Int.mul_nonneg (by omega) (by omega)
            have HFM := hide (show Ly.rounds (Ly.col (freeB a1 a2 a3 g) (lyP sp z rs) rs.length nx ny f l) (nx - (i + 1)) (i + 1) (Ly.rounds (Ly.cell (freeB a1 a2 a3 g) (lyP sp z rs) rs.length nx ny f l i) (ny - (j + 1)) (j + 1) (Ly.cell (freeB a1 a2 a3 g) (lyP sp z rs) rs.length nx ny f l i j s2)) = fin from by rw [← HF.out, Ly.rounds_more hj])
            have hpe : lyP sp z rs l.length i j = ⟨nm, x, y2, z, rk⟩ := by rw [HP.out i j, HXX.out, HYY.out]
            have HPE := hide hpe
            have HVP := hide (show vPlace nm x y2 z rk = true from by
              have q := HV.out i j (by rw [← HXX.out]; exact hle) (by rw [← HYY.out]; exact hle2)
              rw [hpe] at q
              exact q)
            clear HF hpe
            go_wp2_with fail
            refine wp_region_kept (by kernel_rfl) (by kernel_rfl) ?_
            intro gc gf gz
            repeat (go_big_quiet_step (fail))
            refine wpQuiet_nil ?_
            intro w5 hw'
            obtain ⟨⟨_, hb5⟩, rfl⟩ := hw'
            clear gc gf gz
            try dsimp only
            have fs5 := hb5.size
            try simp at fs5 hb5
            have HR5 := hide (HRR.out.below hb5)
            have hqq := HR5.out.q
            have v0 : w5.cell? ⟨qb, 0, none⟩ = some (.string nm) := by simp [World.cell?, hqq]
            have v1 : w5.cell? ⟨qb, 1, none⟩ = some (.int .i64 x) := by simp [World.cell?, hqq]
            have v2 : w5.cell? ⟨qb, 2, none⟩ = some (.int .i64 y2) := by simp [World.cell?, hqq]
            have v3 : w5.cell? ⟨qb, 3, none⟩ = some (.int .i64 z) := by simp [World.cell?, hqq]
            have v4 : w5.cell? ⟨qb, 4, none⟩ = some (.int .i64 rk) := by simp [World.cell?, hqq]
            clear HRR hqq hb5 fs5 g3 w2' hqz hblr hdec
            have HIF := hide (isFree_any b s2.left s2.spent a1 a2 a3 (some ⟨bq, oq, none⟩) rs.length c g sp z pv2 pc2 l nm x y2 z rk w5 HR5.out.hs.st (Own.at_ (fun _ => rfl) HR5.out.hs.oc) HL.out HVP.out HC.out HG.out (by omega))
            go_wp2_with fail
            refine HIF.out.mono ?_
            rintro e w6 ⟨rfl, hb6⟩
            have HR6 := hide (HR5.out.below hb6)
            clear HIF HR5 v0 v1 v2 v3 v4 hb6
            cases hfr : freeB a1 a2 a3 g l ⟨nm, x, y2, z, rk⟩
            · have HFM2 := hide (show Ly.rounds (Ly.col (freeB a1 a2 a3 g) (lyP sp z rs) rs.length nx ny f l) (nx - (i + 1)) (i + 1) (Ly.rounds (Ly.cell (freeB a1 a2 a3 g) (lyP sp z rs) rs.length nx ny f l i) (ny - (j + 1)) (j + 1) s2) = fin from by
                rw [← HFM.out, Ly.cell_no (by rw [HPE.out]; exact hfr)])
              clear HFM
              have hst := HR6.out.hs.st
              have hqq := HR6.out.q
              have g7 : w6.cell? ⟨b, 7, none⟩ = some (.int .i64 sp) := by simp [World.cell?, hst]
              have v2 : w6.cell? ⟨qb, 2, none⟩ = some (.int .i64 y2) := by simp [World.cell?, hqq]
              have u2 : w6.frozen? ⟨qb, 2, none⟩ = false := by simp [World.frozen?, hqq]
              have kY : IntKind.i64.wrap (y2 + sp) = y2 + sp := IntWalk.i64_in _ (by omega)
              have HYN := hide (show y2 + sp = sp * ((j + 1 : Nat) : Int) from by rw [mul_succ', ← HYY.out])
              clear hst hqq
              go_wp2_with fail
              go_region
              all_goals
                go_wp2_with fail
                go_roundg (gk - 1)
                case measure => omega
                case rel => exact ⟨j + 1, s2, pv2, pc2, y2 + sp, by omega, hgot2, HYN, hide (by first | exact HR6.out.setY _ | exact HR6.out.drew.setY _ | exact (HR6.out.setY _).drew), HFM2⟩
            · have HFM2 := hide (show Ly.rounds (Ly.col (freeB a1 a2 a3 g) (lyP sp z rs) rs.length nx ny f l) (nx - (i + 1)) (i + 1) (Ly.rounds (Ly.cell (freeB a1 a2 a3 g) (lyP sp z rs) rs.length nx ny f l i) (ny - (j + 1)) (j + 1) (lyVisit a1 a2 a3 g sp z rs f (l ++ [⟨nm, x, y2, z, rk⟩]) s2)) = fin from by
                rw [← HFM.out, Ly.cell_yes (by rw [HPE.out]; exact hfr), HPE.out]
                unfold lyVisit
                rw [HNX.out, HNY.out])
              clear HFM
              have hst := HR6.out.hs.st
              have hqq := HR6.out.q
              have g9 : w6.cell? ⟨b, 9, none⟩ = some (.slice pv2 l.length pc2) := by simp [World.cell?, hst]
              have f9 : w6.frozen? ⟨b, 9, none⟩ = false := by simp [World.frozen?, hst]
              have v0 : w6.cell? ⟨qb, 0, none⟩ = some (.string nm) := by simp [World.cell?, hqq]
              have v1 : w6.cell? ⟨qb, 1, none⟩ = some (.int .i64 x) := by simp [World.cell?, hqq]
              have v2 : w6.cell? ⟨qb, 2, none⟩ = some (.int .i64 y2) := by simp [World.cell?, hqq]
              have v3 : w6.cell? ⟨qb, 3, none⟩ = some (.int .i64 z) := by simp [World.cell?, hqq]
              have v4 : w6.cell? ⟨qb, 4, none⟩ = some (.int .i64 rk) := by simp [World.cell?, hqq]
              have hqz := heap_lt hqq
              have hblr := heap_lt hst
              clear hst hqq
              go_upto_region 14 with fail
              have HNb := hide (show some b ≠ (Value.slice pv2 l.length pc2).ownBlock from fun e => by have := (HR6.out.hs.oc.lt b e.symm).1; omega)
              go_cut [] (fun wx => ∃ (A8 : Option Addr) (c8 : Nat), Hid (LyI w0 b (some ⟨bq, oq, none⟩) rs.length c a1 a2 a3 g sp z wx A8 c8 (l ++ [(⟨nm, x, y2, z, rk⟩ : PlaceR)]) s2) ∧ Hid (wx.heap[qb]? = some (.cells #[.string nm, .int .i64 x, .int .i64 y2, .int .i64 z, .int .i64 rk] 95 (0, 0))) ∧ Hid (Fr b w wx (.slice pv l.length pc) (.slice A8 (l.length + 1) c8)) ∧ Hid ((Value.slice A8 (l.length + 1) c8).ownBlock ≠ some qb))
              case first =>
                obtain ⟨i0', hi0, hz0, hz1', hz2'⟩ := info_parts infoA_Place
                go_region_law (refine step_append_lies _ (by rfl) _ _ _ (by rfl) (b + 1) 95 i0' _ 5 48 Try.underlying83 hi0 hz0 hz1' hz2' rfl (by omega) (.slice pv2 l.length pc2) l.length (l.flatMap encPlace) (by rfl) (Own.below HR6.out.hs.oc (by repeat (first | with_reducible exact Below.refl _ _ | with_reducible assumption | (with_reducible refine Below.drew ?_) | (with_reducible refine below_drewN ?_ _) | ((with_reducible refine Below.alloc ?_ ?_ _); rotate_left; (focus (first | omega | (simp; omega) | simp))) | ((with_reducible refine Below.setCell ?_ ?_ _); rotate_left; (focus (first | omega | (simp; omega) | simp))) | (refine Below.trans ?_ (Below.mono (by assumption) (by first | omega | (simp; omega) | simp)))))) ⟨w6.heap.size, 0, none⟩ 1 1 [.string nm, .int .i64 x, .int .i64 y2, .int .i64 z, .int .i64 rk] (by rfl) (by rfl) (World.news_of_block (cs := #[.string nm, .int .i64 x, .int .i64 y2, .int .i64 z, .int .i64 rk]) (t := 95) (fr := (0, 0)) (heap_alloc_new _ _)) (by simp [Value.oneCell']) (by omega) (by unfold maxLen; omega) (by omega) (by simp; omega) (w6.heap.size + 1) (by simp) ?_; intro gg cap w9 hown9 hgrow hat hlt9; have g9' := (hgrow.cell_far ⟨b, 9, none⟩ (by simp; omega) HNb.out).trans (show _ = some (Value.slice pv2 l.length pc2) by go_simp); have f9' := (hgrow.frozen_far ⟨b, 9, none⟩ (by simp; omega) HNb.out).trans (show _ = false by go_simp))
                all_goals
                  have hb9 : Below (b + 1) w6 w9 := Below.grown (show Below (b + 1) w6 _ from (by repeat (first | with_reducible exact Below.refl _ _ | with_reducible assumption | (with_reducible refine Below.drew ?_) | (with_reducible refine below_drewN ?_ _) | ((with_reducible refine Below.alloc ?_ ?_ _); rotate_left; (focus (first | omega | (simp; omega) | simp))) | ((with_reducible refine Below.setCell ?_ ?_ _); rotate_left; (focus (first | omega | (simp; omega) | simp))) | (refine Below.trans ?_ (Below.mono (by assumption) (by first | omega | (simp; omega) | simp)))))) hgrow (by simp; omega) (fun k hk => (HR6.out.hs.oc.lt k hk).1)
                  have hg9 := grown_trans (grown_of_below (show Below w6.heap.size w6 _ from (by repeat (first | with_reducible exact Below.refl _ _ | with_reducible assumption | (with_reducible refine Below.drew ?_) | (with_reducible refine below_drewN ?_ _) | ((with_reducible refine Below.alloc ?_ ?_ _); rotate_left; (focus (first | omega | (simp; omega) | simp))) | ((with_reducible refine Below.setCell ?_ ?_ _); rotate_left; (focus (first | omega | (simp; omega) | simp))) | (refine Below.trans ?_ (Below.mono (by assumption) (by first | omega | (simp; omega) | simp)))))) (Value.slice pv2 l.length pc2).ownBlock) hgrow
                  have hown : Own encPlace 5 95 w9 (b + 1) (.slice (some ⟨gg, 0, none⟩) (l.length + 1) cap) (l ++ [(⟨nm, x, y2, z, rk⟩ : PlaceR)]) := by
                    unfold Own
                    rw [List.length_append, List.flatMap_append]
                    simpa [encPlace] using hown9
                  have hat' : (Value.slice (some ⟨gg, 0, none⟩) (l.length + 1) cap).ownBlock = (Value.slice pv2 l.length pc2).ownBlock ∨ ∃ g2, (Value.slice (some ⟨gg, 0, none⟩) (l.length + 1) cap).ownBlock = some g2 ∧ w6.heap.size ≤ g2 := by
                    rcases hat with e | e
                    · exact .inl e.symm
                    · exact .inr ⟨gg, rfl, by omega⟩
                  have hP := HR6.out.hs.push hown hb9
                  have hF := (HR6.out.fr.push hg9 hat').set 9 (.slice (some ⟨gg, 0, none⟩) (l.length + 1) cap)
                  have hQ := (heap_other (j := 9) (x := .slice (some ⟨gg, 0, none⟩) (l.length + 1) cap) hqb2).trans ((hg9.block qb hqz (fun e => HR6.out.ne e.symm)).trans HR6.out.q)
                  have hN := not_thereL hat' HR6.out.ne hqz
                  have HALL := hide (And.intro hP (And.intro hQ (And.intro hF hN)))
                  clear hP hQ hF hN hb9 hg9 hown hat' hown9 hgrow hat g9' f9' hi0 hz0 hz1' hz2'
                  go_wp2_with fail
                  go_meet
                  exact ⟨some ⟨gg, 0, none⟩, cap, hide HALL.out.1, hide HALL.out.2.1, hide HALL.out.2.2.1, hide HALL.out.2.2.2⟩
              case rest =>
                obtain ⟨w9, rfl⟩ : ∃ w9, w9 = wc := ⟨_, rfl⟩
                obtain ⟨A8, c8, HP9, HQ9, HF9, HN9⟩ := hcut
                clear HR6 g9 f9 v0 v1 v2 v3 v4 hqz hblr HNb
                have hsn := ih (l ++ [(⟨nm, x, y2, z, rk⟩ : PlaceR)]) s2 w9 A8 c8 (by simp; omega) (by simp; omega) HP9 (hide (GoodL.snoc HL.out HVP.out)) hgot2
                have HSN := hide hsn
                clear hsn
                go_wp2_with fail
                refine HSN.out.mono ?_
                rintro e w10 ⟨s3, pv3, pc3, rfl, hs3, hI, hFr⟩
                have HS3 := hide hs3
                have hqz9 := heap_lt HQ9.out
                have HQ10 := hide ((hFr.keep qb hqz9 hqb2 (by simpa using HN9.out)).trans HQ9.out)
                have HF10 := hide (HF9.out.trans (by simpa using hFr))
                have HN10 := hide (not_thereL hFr.loc (by simpa using HN9.out) hqz9)
                have HI10 := hide hI
                clear hs3 hI hFr HSN HP9 HQ9 HF9 HN9
                cases hgot3 : s3.got
                · rw [now_no hgot3] at HI10 HF10 HN10
                  have HFM3 := hide (show Ly.rounds (Ly.col (freeB a1 a2 a3 g) (lyP sp z rs) rs.length nx ny f l) (nx - (i + 1)) (i + 1) (Ly.rounds (Ly.cell (freeB a1 a2 a3 g) (lyP sp z rs) rs.length nx ny f l i) (ny - (j + 1)) (j + 1) s3) = fin from by rw [← HFM2.out, HS3.out])
                  clear HFM2
                  obtain ⟨g13, hcv, hcap⟩ := own_cap HI10.out.oc rfl (by simp)
                  have hst := HI10.out.st
                  have hlen : (l ++ [(⟨nm, x, y2, z, rk⟩ : PlaceR)]).length = l.length + 1 := by simp
                  rw [hlen] at hst hcap
                  have g9 : w10.cell? ⟨b, 9, none⟩ = some (.slice pv3 (l.length + 1) pc3) := by simp [World.cell?, hst]
                  have f9 : w10.frozen? ⟨b, 9, none⟩ = false := by simp [World.frozen?, hst]
                  have hcap2 : l.length ≤ pc3 := by omega
                  clear hst
                  subst hcv
                  go_wp2_with fail
                  have hR11 : LyR w0 b (some ⟨bq, oq, none⟩) rs.length c a1 a2 a3 g sp z w qb nm rk pv pc l (w10.setCell ⟨b, 9, none⟩ (.slice (some ⟨g13, 0, none⟩) l.length pc3)) (some ⟨g13, 0, none⟩) pc3 s3 x y2 :=
                    ⟨HI10.out.pop rfl, (heap_other hqb2).trans HQ10.out, (HF10.out.set 9 _).short, by simpa [Value.ownBlock] using HN10.out, hqb, hwb, hbl⟩
                  have HR11 := hide hR11
                  clear hR11 HI10 HQ10 HF10 HN10 g9 f9
                  generalize w10.setCell ⟨b, 9, none⟩ (.slice (some ⟨g13, 0, none⟩) l.length pc3) = w11 at *
                  have hst := HR11.out.hs.st
                  have hqq := HR11.out.q
                  have g7 : w11.cell? ⟨b, 7, none⟩ = some (.int .i64 sp) := by simp [World.cell?, hst]
                  have v2 : w11.cell? ⟨qb, 2, none⟩ = some (.int .i64 y2) := by simp [World.cell?, hqq]
                  have u2 : w11.frozen? ⟨qb, 2, none⟩ = false := by simp [World.frozen?, hqq]
                  have kY : IntKind.i64.wrap (y2 + sp) = y2 + sp := IntWalk.i64_in _ (by omega)
                  have HYN := hide (show y2 + sp = sp * ((j + 1 : Nat) : Int) from by rw [mul_succ', ← HYY.out])
                  clear hst hqq
                  go_region
                  all_goals
                    go_wp2_with fail
                    go_roundg (gk - 1)
                    case measure => omega
                    case rel => exact ⟨j + 1, s3, some ⟨g13, 0, none⟩, pc3, y2 + sp, by omega, hgot3, HYN, hide (by first | exact HR11.out.setY _ | exact HR11.out.drew.setY _ | exact (HR11.out.setY _).drew), HFM3⟩
                · have HEN := hide (ly_ended_got hgot3)
                  have HFE := hide (show s3 = fin from by
                    rw [← HFM2.out, HS3.out]
                    rw [Ly.cells_ended HEN.out, Ly.cols_ended HEN.out])
                  have hnow : Ly.now (l ++ [(⟨nm, x, y2, z, rk⟩ : PlaceR)]) s3 = Ly.now l s3 := by unfold Ly.now; rw [hgot3]; rfl
                  rw [hnow] at HI10 HF10
                  have HG3 := hide hgot3
                  clear HFM2 hnow
                  go_wp2_with fail
                  go_ret
                  exact ⟨s3, pv3, pc3, by rw [HG3.out]; rfl, by rw [← HFIN.out, HFE.out], HI10.out, HF10.out⟩
          · have hle2 : ¬ y2 ≤ a2 := by rw [HYY.out]; exact fun h => hj ((IY.out j).2 h)
            have hdec : decide (y2 ≤ a2) = false := by simpa using hle2
            have HF2 := hide (show Ly.rounds (Ly.col (freeB a1 a2 a3 g) (lyP sp z rs) rs.length nx ny f l) (nx - (i + 1)) (i + 1) s2 = fin from by rw [← HF.out, Ly.rounds_none (n := ny) (k := j) (by omega)])
            have HXN := hide (show x + sp = sp * ((i + 1 : Nat) : Int) from by rw [mul_succ', ← HXX.out])
            clear HF
            go_wp2_with fail
            refine wp_region_kept (by kernel_rfl) (by kernel_rfl) ?_
            intro gc gf gz
            repeat (go_big_quiet_step (fail))
            refine wpQuiet_nil ?_
            intro w5 hw'
            obtain ⟨⟨_, hb5⟩, rfl⟩ := hw'
            clear gc gf gz
            try dsimp only
            have fs5 := hb5.size
            try simp at fs5 hb5
            have HR5 := hide (HRR.out.below hb5)
            have hst := HR5.out.hs.st
            have hqq := HR5.out.q
            have g7 : w5.cell? ⟨b, 7, none⟩ = some (.int .i64 sp) := by simp [World.cell?, hst]
            have v1 : w5.cell? ⟨qb, 1, none⟩ = some (.int .i64 x) := by simp [World.cell?, hqq]
            have u1 : w5.frozen? ⟨qb, 1, none⟩ = false := by simp [World.frozen?, hqq]
            have kX : IntKind.i64.wrap (x + sp) = x + sp := IntWalk.i64_in _ (by omega)
            clear HRR hst hqq hb5 fs5 g3 w2' hqz hblr hdec
            go_wp2_with fail
            go_region
            all_goals
              go_wp2_with fail
              go_roundg (nx - (i + 1))
              case measure => omega
              case rel => exact ⟨i + 1, s2, pv2, pc2, x + sp, y2, by omega, hgot2, HXN, hide (by first | exact HR5.out.setX _ | exact HR5.out.drew.setX _ | exact (HR5.out.setX _).drew), HF2⟩
      · have hle : ¬ x ≤ a1 := by rw [HXX.out]; exact fun h => hi ((IX.out i).2 h)
        have hdec : decide (x ≤ a1) = false := by simpa using hle
        have HFE := hide (show s' = fin from by rw [← HF.out, Ly.rounds_none (by omega)])
        clear HF
        go_wp2_with fail
        refine wp_region_kept (by kernel_rfl) (by kernel_rfl) ?_
        intro gc gf gz
        repeat (go_big_quiet_step (fail))
        refine wpQuiet_nil ?_
        intro w3 hw'
        obtain ⟨⟨_, hb3⟩, rfl⟩ := hw'
        clear gc gf gz
        try dsimp only
        have fs3 := hb3.size
        try simp at fs3 hb3
        have HR3 := hide (HRR.out.below hb3)
        clear HRR hb3 fs3 g2 y1
        go_wp2_with fail
        go_ret
        exact ⟨s', pv', pc', by rw [hgot]; rfl, by rw [← HFIN.out, HFE.out], by rw [now_no hgot]; exact HR3.out.hs, by rw [now_no hgot]; exact HR3.out.fr⟩
end Go.Proofs.Ytjklhacffdhgaaa
