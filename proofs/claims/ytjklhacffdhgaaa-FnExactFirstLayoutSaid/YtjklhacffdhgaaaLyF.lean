/- Layouts: the places that are tried, whether one is free, on both sides. -/
import Derived.Test.YtjklhacffdhgaaaLeast
import Derived.Test.YtjklhacffdhgaaaChX
import Derived.Test.YtjklhacffdhgaaaLyS
import Derived.Laws.Runes
import Derived.Laws.IdiomStrings
import Derived.Laws.Concat
namespace Go.Proofs.Ytjklhacffdhgaaa
open Go.RowKit

/-- The name of the bell k in a layout. -/
def lyNm (k : Nat) : ByteArray := ⟨#[98, UInt8.ofNat (97 + k)]⟩
theorem lyNm_ok : ∀ k : Fin 24, nameB (lyNm k.val).data.toList = true ∧ (lyNm k.val).size ≤ 100 ∧ (0 < k.val → sle (lyNm k.val) (lyNm (k.val - 1)) = false) := by
  intro ⟨k, hk⟩
  unfold nameB sle
  simp only [ByteArray.toList_eq]
  revert k
  decide
/-- The place that is tried for the bell k. -/
def lyP (st z : Int) (rs : List Int) (k i j : Nat) : PlaceR := ⟨lyNm k, st * i, st * j, z, rs.getD k 0⟩
theorem lyP_ok {st z a b : Int} {rs : List Int} {k i j : Nat} (hk : k < rs.length) (h24 : rs.length ≤ 24) (hr : ∀ r ∈ rs, inB r 1 5000 = true) (ha : a ≤ 20000) (hb : b ≤ 20000) (h1 : 0 ≤ st) (hi : st * i ≤ a) (hj : st * j ≤ b) (hz : inB z 0 20000 = true) : vPlaceR (lyP st z rs k i j) = true := by
  have hn := (lyNm_ok ⟨k, by omega⟩).1
  have e : rs.getD k 0 = rs[k] := by rw [List.getD_eq_getElem?_getD, List.getElem?_eq_getElem hk]; rfl
  have hrk := hr rs[k] (List.getElem_mem hk)
  have p1 : 0 ≤ st * (i : Int) := Int.mul_nonneg h1 (by omega)
  have p2 : 0 ≤ st * (j : Int) := Int.mul_nonneg h1 (by omega)
  unfold vPlaceR lyP vPlace
  simp only [e, hrk, hz, hn, Bool.and_true, Bool.true_and]
  rw [inB_mk p1 (by omega), inB_mk p2 (by omega)]
  rfl
/-- How many steps fit into a length. -/
def lyN (a st : Int) : Nat := (a / st).toNat + 1
theorem lyN_iff {a st : Int} (h0 : 0 ≤ a) (h1 : 1 ≤ st) (i : Nat) : i < lyN a st ↔ st * i ≤ a := by
  have h2 : 0 ≤ a / st := Int.ediv_nonneg h0 (by omega)
  have h3 : (i : Int) ≤ a / st ↔ (i : Int) * st ≤ a := Int.le_ediv_iff_mul_le (by omega)
  unfold lyN
  rw [Int.mul_comm st i]
  omega
theorem lyN_le {a st : Int} (h0 : 0 ≤ a) (h2 : a ≤ 20000) : lyN a st ≤ 20001 := by
  have h3 : a / st ≤ a := Int.ediv_le_self _ h0
  unfold lyN
  omega
/-- Whether a place is free: within the chamber, and with room to all others. -/
@[irreducible] def nearB (g : Int) (l : List PlaceR) (p : PlaceR) : Bool := l.any fun q => decide (clP p q < g)
theorem nearB_yes {g : Int} {l : List PlaceR} {p : PlaceR} (k : Nat) (hk : k < l.length) (h : clP p l[k] < g) : nearB g l p = true := by
  unfold nearB
  rw [List.any_eq_true]
  exact ⟨l[k], List.getElem_mem hk, by simpa using h⟩
theorem nearB_no {g : Int} {l : List PlaceR} {p : PlaceR} (h : ∀ k (hk : k < l.length), g ≤ clP p l[k]) : nearB g l p = false := by
  unfold nearB
  rw [List.any_eq_false]
  intro q hq
  obtain ⟨k, hk, rfl⟩ := List.getElem_of_mem hq
  have := h k hk
  simp
  omega
theorem nearB_room {g : Int} {l : List PlaceR} {p : PlaceR} (h : nearB g l p = false) (k : Nat) (hk : k < l.length) : g ≤ clP p l[k] := by
  unfold nearB at h
  rw [List.any_eq_false] at h
  have := h l[k] (List.getElem_mem hk)
  simp at this
  omega
def fitsP (a b c g : Int) (p : PlaceR) : Bool := fits a b c p.x p.y p.z p.r g
@[irreducible] def freeB (a b c g : Int) (l : List PlaceR) (p : PlaceR) : Bool := fitsP a b c g p && !nearB g l p
theorem freeB_1 {a b c g : Int} {l : List PlaceR} {p : PlaceR} (h : fitsP a b c g p = false) : freeB a b c g l p = false := by unfold freeB; rw [h]; rfl
theorem freeB_2 {a b c g : Int} {l : List PlaceR} {p : PlaceR} (h : fitsP a b c g p = true) : freeB a b c g l p = !nearB g l p := by unfold freeB; rw [h]; rfl
theorem freeB_true {a b c g : Int} {l : List PlaceR} {p : PlaceR} (h : freeB a b c g l p = true) : fitsP a b c g p = true ∧ nearB g l p = false := by
  unfold freeB at h
  simpa using h
theorem utf_lyNm : ∀ k : Fin 24, Utf8.encode (97 + (k.val : Int)) = ⟨#[UInt8.ofNat (97 + k.val)]⟩ := by decide
theorem specl23Name (k : Nat) (hk : k < 24) (w : World) : Calls Try.prog 173 #[.int .i64 k] w fun e w' => e = .returned (.string (lyNm k)) ∧ Below w.heap.size w w' := by
  have hd : (UInt8.ofNat (97 + k)).toNat = 97 + k := by rw [UInt8.toNat_ofNat']; omega
  have e : Hid (lyNm k = ⟨#[98, UInt8.ofNat (97 + k)]⟩) := rfl
  have kw : IntKind.u8.wrap (97 + (k : Int)) = 97 + (k : Int) := by
    have : IntKind.u8.wrap (97 + (k : Int)) = (97 + (k : Int)) % 256 := rfl
    omega
  have kc := run_convert_bytes_back (P := Try.prog) (w.alloc (.cells #[.int .u8 (97 + (k : Int))] 5)) 40 9 5 ⟨w.heap.size, 0, none⟩ 1 [UInt8.ofNat (97 + k)] Try.underlying40 Try.underlying5 Try.underlying9 (fun j hj => by
    have : j = 0 := by simpa using hj
    subst this
    rw [show (⟨w.heap.size, 0, none⟩ : Addr).add 0 = ⟨w.heap.size, 0, none⟩ from rfl]
    simp only [List.getElem_cons_zero, hd]
    simp)
  have k2 := run_string_add_sum (P := Try.prog) (w.alloc (.cells #[.int .u8 (97 + (k : Int))] 5)) ⟨[98].toArray⟩ ⟨[UInt8.ofNat (97 + k)].toArray⟩ (by simp [ByteArray.size])
  rw [mk_app] at k2
  clear hd
  generalize UInt8.ofNat (97 + k) = d at *
  simp only [List.length_cons, List.length_nil, Nat.zero_add, List.cons_append, List.nil_append] at kc k2
  go_enter Try.func173, Try.ntmps173
  go_wp2_with fail
  go_ret
  exact ⟨ret_str e.out.symm, (by repeat (first | with_reducible exact Below.refl _ _ | with_reducible assumption | (with_reducible refine Below.drew ?_) | (with_reducible refine below_drewN ?_ _) | ((with_reducible refine Below.alloc ?_ ?_ _); rotate_left; (focus (first | omega | (simp; omega) | simp))) | ((with_reducible refine Below.setCell ?_ ?_ _); rotate_left; (focus (first | omega | (simp; omega) | simp))) | (refine Below.trans ?_ (Below.mono (by assumption) (by first | omega | (simp; omega) | simp)))))⟩
/-- The program's searching struct. -/
abbrev lyCells (left : Int) (spent : Bool) (a1 a2 a3 : Int) (A : Option Addr) (n c : Nat) (g st z : Int) (pv : Option Addr) (m pc : Nat) : Array Value :=
  #[.int .i64 left, .bool spent, .int .i64 a1, .int .i64 a2, .int .i64 a3, .slice A n c, .int .i64 g, .int .i64 st, .int .i64 z, .slice pv m pc]
set_option maxRecDepth 100000 in
set_option maxHeartbeats 1000000 in
theorem isFree_any (b : Nat) (left : Int) (spent : Bool) (a1 a2 a3 : Int) (A : Option Addr) (n c : Nat) (g st z : Int) (pv : Option Addr) (pc : Nat) (l : List PlaceR) (x0 : ByteArray) (x1 x2 x3 x4 : Int) (w : World)
    (hst : w.heap[b]? = some (.cells (lyCells left spent a1 a2 a3 A n c g st z pv l.length pc) 189 (0, 0))) (hl : SlAt encPlace 5 w pv l) (hv : ∀ q ∈ l, vPlaceR q = true) (hp : vPlace x0 x1 x2 x3 x4 = true) (hch : vCh a1 a2 a3 = true) (hg : inB g 0 5000 = true) (hln : l.length ≤ 24) :
    Calls Try.prog 176 #[.pointer (some ⟨b, 0, none⟩), .agg #[.string x0, .int .i64 x1, .int .i64 x2, .int .i64 x3, .int .i64 x4]] w fun e w' => e = .returned (.bool (freeB a1 a2 a3 g l ⟨x0, x1, x2, x3, x4⟩)) ∧ Below w.heap.size w w' := by
  have hbl : b < w.heap.size := heap_lt hst
  have HST := hide ((heap_alloc_old w (.cells #[.string x0, .int .i64 x1, .int .i64 x2, .int .i64 x3, .int .i64 x4] 95) hbl).trans hst)
  have HL := hide (hl.below ((Below.refl _ _).alloc (Nat.le_refl _) (.cells #[.string x0, .int .i64 x1, .int .i64 x2, .int .i64 x3, .int .i64 x4] 95)))
  have HV := hide hv
  have HP := hide hp
  have HC := hide hch
  have HG := hide hg
  obtain ⟨g0, g1⟩ := inB_true hg
  have g2 : w.cell? ⟨b, 2, none⟩ = some (.int .i64 a1) := by simp [World.cell?, hst]
  have g3 : w.cell? ⟨b, 3, none⟩ = some (.int .i64 a2) := by simp [World.cell?, hst]
  have g4 : w.cell? ⟨b, 4, none⟩ = some (.int .i64 a3) := by simp [World.cell?, hst]
  have g6 : w.cell? ⟨b, 6, none⟩ = some (.int .i64 g) := by simp [World.cell?, hst]
  clear hst hl hv hp hch hg
  cases hf : fits a1 a2 a3 x1 x2 x3 x4 g
  · have e : Hid (freeB a1 a2 a3 g l ⟨x0, x1, x2, x3, x4⟩ = false) := freeB_1 hf
    go_enter Try.func176, Try.ntmps176
    go_wp2_with fail
    refine wp_region_kept (by kernel_rfl) (by kernel_rfl) ?_
    intro gc gf gz
    repeat (go_big_quiet_step ((go_at_call 133; exact Calls.kept (implfitsChamber a1 a2 a3 x0 x1 x2 x3 x4 g _ HC.out HP.out HG.out))))
    refine wpQuiet_nil ?_
    intro w1 hw'
    obtain ⟨⟨_, hb1⟩, rfl⟩ := hw'
    clear gc gf gz
    try dsimp only
    have fs1 := hb1.size
    try simp at fs1 hb1
    have HB1 := hide (show Below w.heap.size w w1 from (Below.refl _ _).alloc (Nat.le_refl _) _ |>.trans (hb1.mono (by simp)))
    rw [hf]
    clear hb1
    go_wp2_with fail
    go_ret
    exact ⟨ret_bool e.out.symm, HB1.out⟩
  · have e : Hid (freeB a1 a2 a3 g l ⟨x0, x1, x2, x3, x4⟩ = !nearB g l ⟨x0, x1, x2, x3, x4⟩) := freeB_2 hf
    go_enter Try.func176, Try.ntmps176
    go_wp2_with fail
    refine wp_region_kept (by kernel_rfl) (by kernel_rfl) ?_
    intro gc gf gz
    repeat (go_big_quiet_step ((go_at_call 133; exact Calls.kept (implfitsChamber a1 a2 a3 x0 x1 x2 x3 x4 g _ HC.out HP.out HG.out))))
    refine wpQuiet_nil ?_
    intro w1 hw'
    obtain ⟨⟨_, hb1⟩, rfl⟩ := hw'
    clear gc gf gz
    try dsimp only
    have fs1 := hb1.size
    try simp at fs1 hb1
    rw [hf]
    have HST1 := hide ((hb1.block b (by omega)).trans HST.out)
    have h1 := HST1.out
    have q9 : w1.cell? ⟨b, 9, none⟩ = some (.slice pv l.length pc) := by simp [World.cell?, h1]
    have HL1 := hide (HL.out.below (by simpa using hb1))
    have HB1 := hide (show Below (w.heap.size + 1) (w.alloc (.cells #[.string x0, .int .i64 x1, .int .i64 x2, .int .i64 x3, .int .i64 x4] 95)) w1 from hb1)
    clear hb1 h1 HST HL g2 g3 g4 g6 fs1
    go_wp2_with fail
    go_loopw [23] (fun v wr => ∃ k : Nat, v = .int .i64 k ∧ k ≤ l.length ∧ Hid (∀ j (hj : j < l.length), j < k → g ≤ clP ⟨x0, x1, x2, x3, x4⟩ l[j]) ∧ Hid (Below (w.heap.size + 1) (w.alloc (.cells #[.string x0, .int .i64 x1, .int .i64 x2, .int .i64 x3, .int .i64 x4] 95)) wr) ∧ Hid (Below w1.heap.size w1 wr)) (fun v _ => l.length - (intOf v).toNat)
    case atStart => exact ⟨0, rfl, by omega, hide (fun j _ h => by omega), HB1, hide (Below.refl _ _)⟩
    case round =>
      obtain ⟨k, rfl, hk, HJ, HB, HW⟩ := hrel
      have hz1 := HB1.out.size
      have hzr := HB.out.size
      simp at hz1 hzr
      have p0 := HB.out.cell (p := ⟨w.heap.size, 0, none⟩) (by simp)
      have p1 := HB.out.cell (p := ⟨w.heap.size, 1, none⟩) (by simp)
      have p2 := HB.out.cell (p := ⟨w.heap.size, 2, none⟩) (by simp)
      have p3 := HB.out.cell (p := ⟨w.heap.size, 3, none⟩) (by simp)
      have p4 := HB.out.cell (p := ⟨w.heap.size, 4, none⟩) (by simp)
      simp at p0 p1 p2 p3 p4
      by_cases hlt : k < l.length
      · have hst := (HW.out.block b (by omega)).trans HST1.out
        have g6 : wr.cell? ⟨b, 6, none⟩ = some (.int .i64 g) := by simp [World.cell?, hst]
        obtain ⟨bq, oq, rfl, hbq, hc⟩ := (HL1.out.below HW.out) k hlt
        have hvk := HV.out l[k] (List.getElem_mem hlt)
        have hnear := nearB_yes (g := g) (p := ⟨x0, x1, x2, x3, x4⟩) k hlt
        have hstep : g ≤ clP ⟨x0, x1, x2, x3, x4⟩ l[k] → ∀ j (hj : j < l.length), j < k + 1 → g ≤ clP ⟨x0, x1, x2, x3, x4⟩ l[j] := fun h j hj hjk => by
          by_cases ej : j = k
          · subst ej; exact h
          · exact HJ.out j hj (by omega)
        have HN := hide hnear
        have HSTEP := hide hstep
        have hc0 := hc 0 _ rfl
        have hc1 := hc 1 _ rfl
        have hc2 := hc 2 _ rfl
        have hc3 := hc 3 _ rfl
        have hc4 := hc 4 _ rfl
        simp only [Nat.add_zero] at hc0
        clear hc hnear hstep hst
        generalize l[k] = q at *
        obtain ⟨y0, y1, y2, y3, y4⟩ := q
        simp only at hc0 hc1 hc2 hc3 hc4
        have HVK := hide hvk
        clear hvk
        have hzb : b < wr.heap.size := by omega
        have hzw : w.heap.size < wr.heap.size := by omega
        go_wp2_with fail
        refine wp_region_kept (by kernel_rfl) (by kernel_rfl) ?_
        intro gc gf gz
        repeat (go_big_quiet_step ((go_at_call 177; exact Calls.kept (implclearance x0 y0 x1 x2 x3 x4 y1 y2 y3 y4 _ HP.out HVK.out))))
        refine wpQuiet_nil ?_
        intro w2 hw'
        obtain ⟨⟨_, hb2⟩, rfl⟩ := hw'
        clear gc gf gz
        try dsimp only
        have fs2 := hb2.size
        try simp at fs2 hb2
        have HB2 := hide (show Below (w.heap.size + 1) (w.alloc (.cells #[.string x0, .int .i64 x1, .int .i64 x2, .int .i64 x3, .int .i64 x4] 95)) w2 from (HB.out.alloc (by omega) _).trans (hb2.mono (by simp; omega)))
        have HW2 := hide (show Below w1.heap.size w1 w2 from (HW.out.alloc HW.out.size _).trans (hb2.mono (by have := HW.out.size; simp; omega)))
        clear hb2
        by_cases hcl : clr x1 x2 x3 x4 y1 y2 y3 y4 < g
        · have hn := HN.out hcl
          have e2 : Hid (freeB a1 a2 a3 g l ⟨x0, x1, x2, x3, x4⟩ = false) := hide (by rw [e.out, hn]; rfl)
          clear hn
          go_wp2_with fail
          go_ret
          exact ⟨ret_bool e2.out.symm, (Below.refl _ _).alloc (Nat.le_refl _) _ |>.trans (HB2.out.mono (by omega))⟩
        · have hge : g ≤ clr x1 x2 x3 x4 y1 y2 y3 y4 := by omega
          have HS2 := hide (HSTEP.out hge)
          go_wp2_with fail
          go_roundw
          case rel => exact ⟨k + 1, by go_num, by omega, HS2, HB2, HW2⟩
          case measure => simp [intOf]; omega
      · obtain rfl : k = l.length := by omega
        have hn := nearB_no (g := g) (l := l) (p := ⟨x0, x1, x2, x3, x4⟩) (fun j hj => HJ.out j hj hj)
        have e2 : Hid (freeB a1 a2 a3 g l ⟨x0, x1, x2, x3, x4⟩ = true) := hide (by rw [e.out, hn]; rfl)
        clear hn
        go_wp2_with fail
        go_ret
        exact ⟨ret_bool e2.out.symm, (Below.refl _ _).alloc (Nat.le_refl _) _ |>.trans (HB.out.mono (by omega))⟩
/-- The reference's searching struct. -/
abbrev lyCellsX (bc : Nat) (A : Option Addr) (n c : Nat) (g st z : Int) (pv : Option Addr) (m pc : Nat) (nodes bud : Int) : Array Value :=
  #[.pointer (some ⟨bc, 0, none⟩), .slice A n c, .int .i64 g, .int .i64 st, .int .i64 z, .slice pv m pc, .int .i64 nodes, .int .i64 bud]
set_option maxRecDepth 100000 in
set_option maxHeartbeats 1000000 in
theorem near_any (b bc bp : Nat) (A : Option Addr) (n c : Nat) (g st z : Int) (pv : Option Addr) (pc : Nat) (nodes bud : Int) (l : List PlaceR) (x0 : ByteArray) (x1 x2 x3 x4 : Int) (w : World)
    (hst : w.heap[b]? = some (.cells (lyCellsX bc A n c g st z pv l.length pc nodes bud) 184 (0, 0))) (hl : SlAt encPlace 5 w pv l) (hv : ∀ q ∈ l, vPlaceR q = true) (hp : vPlace x0 x1 x2 x3 x4 = true) (hln : l.length ≤ 24)
    (hq : w.heap[bp]? = some (.cells #[.string x0, .int .i64 x1, .int .i64 x2, .int .i64 x3, .int .i64 x4] 95 (0, 0))) :
    Calls Try.prog 175 #[.pointer (some ⟨b, 0, none⟩), .pointer (some ⟨bp, 0, none⟩)] w fun e w' => e = .returned (.bool (nearB g l ⟨x0, x1, x2, x3, x4⟩)) ∧ Below w.heap.size w w' := by
  have HST := hide hst
  have HL := hide hl
  have HV := hide hv
  have HP := hide hp
  have HQ := hide hq
  have hbl : b < w.heap.size := heap_lt hst
  have hbp : bp < w.heap.size := heap_lt hq
  clear hst hl hv hp hq
  go_enter Try.func175, Try.ntmps175
  go_wp2_with fail
  go_loopw [5] (fun v wr => ∃ k : Nat, v = .int .i64 k ∧ k ≤ l.length ∧ Hid (∀ j (hj : j < l.length), j < k → g ≤ clP ⟨x0, x1, x2, x3, x4⟩ l[j]) ∧ Hid (Below w.heap.size w wr)) (fun v _ => l.length - (intOf v).toNat)
  case atStart => exact ⟨0, rfl, by omega, hide (fun j _ h => by omega), hide (Below.refl _ _)⟩
  case round =>
    obtain ⟨k, rfl, hk, HJ, HB⟩ := hrel
    have hzr := HB.out.size
    have hst := (HB.out.block b (by omega)).trans HST.out
    have g2 : wr.cell? ⟨b, 2, none⟩ = some (.int .i64 g) := by simp [World.cell?, hst]
    have g5 : wr.cell? ⟨b, 5, none⟩ = some (.slice pv l.length pc) := by simp [World.cell?, hst]
    clear hst
    by_cases hlt : k < l.length
    · obtain ⟨bq, oq, rfl, hbq, hc⟩ := (HL.out.below HB.out) k hlt
      have hvk := HV.out l[k] (List.getElem_mem hlt)
      have hnear := nearB_yes (g := g) (p := ⟨x0, x1, x2, x3, x4⟩) k hlt
      have hstep : g ≤ clP ⟨x0, x1, x2, x3, x4⟩ l[k] → ∀ j (hj : j < l.length), j < k + 1 → g ≤ clP ⟨x0, x1, x2, x3, x4⟩ l[j] := fun h j hj hjk => by
        by_cases ej : j = k
        · subst ej; exact h
        · exact HJ.out j hj (by omega)
      rw [clP_comm ⟨x0, x1, x2, x3, x4⟩ l[k]] at hnear hstep
      have HN := hide hnear
      have HSTEP := hide hstep
      have hc1 := hc 1 _ rfl
      have hc2 := hc 2 _ rfl
      have hc3 := hc 3 _ rfl
      have hc4 := hc 4 _ rfl
      clear hc hnear hstep
      generalize l[k] = q at *
      obtain ⟨y0, y1, y2, y3, y4⟩ := q
      simp only at hc1 hc2 hc3 hc4
      have HVK := hide hvk
      have hpb := (HB.out.block bp (by omega)).trans HQ.out
      have CQ := hide (fun u : Kept wr => And.intro ((u.h.cell (p := ⟨bq, oq + k * 5 + 1, none⟩) hbq).trans hc1) (And.intro ((u.h.cell (p := ⟨bq, oq + k * 5 + 2, none⟩) hbq).trans hc2) (And.intro ((u.h.cell (p := ⟨bq, oq + k * 5 + 3, none⟩) hbq).trans hc3) ((u.h.cell (p := ⟨bq, oq + k * 5 + 4, none⟩) hbq).trans hc4))))
      have CP := hide (fun u : Kept wr => (u.h.block bp (by omega)).trans hpb)
      have HCL := hide (fun u : Kept wr => specl23Clear bq (oq + k * 5) bp 0 y0 x0 y1 y2 y3 y4 x1 x2 x3 x4 u.w' HVK.out HP.out (CQ.out u).1 (CQ.out u).2.1 (CQ.out u).2.2.1 (CQ.out u).2.2.2 (by simp [World.cell?, CP.out u]) (by simp [World.cell?, CP.out u]) (by simp [World.cell?, CP.out u]) (by simp [World.cell?, CP.out u]))
      clear hvk hpb CQ CP hc1 hc2 hc3 hc4
      have hzb : b < wr.heap.size := by omega
      go_wp2_with fail
      refine wp_region_kept (by kernel_rfl) (by kernel_rfl) ?_
      intro gc gf gz
      repeat (go_big_quiet_step ((go_at_call 205; exact Calls.kept_drew (HCL.out _))))
      refine wpQuiet_nil ?_
      intro w2 hw'
      obtain ⟨⟨_, hb2⟩, rfl⟩ := hw'
      clear gc gf gz
      try dsimp only
      have fs2 := hb2.size
      try simp at fs2 hb2
      have HB2 := hide (HB.out.trans (hb2.mono HB.out.size))
      clear hb2 HCL
      by_cases hcl : clr y1 y2 y3 y4 x1 x2 x3 x4 < g
      · have hn := HN.out hcl
        have e2 : Hid (nearB g l ⟨x0, x1, x2, x3, x4⟩ = true) := hide hn
        clear hn
        go_wp2_with fail
        go_ret
        exact ⟨ret_bool e2.out.symm, HB2.out⟩
      · have hge : g ≤ clr y1 y2 y3 y4 x1 x2 x3 x4 := by omega
        have HS2 := hide (HSTEP.out hge)
        go_wp2_with fail
        go_roundw
        case rel => exact ⟨k + 1, by go_num, by omega, HS2, HB2⟩
        case measure => simp [intOf]; omega
    · obtain rfl : k = l.length := by omega
      have hn := nearB_no (g := g) (l := l) (p := ⟨x0, x1, x2, x3, x4⟩) (fun j hj => HJ.out j hj hj)
      have e2 : Hid (nearB g l ⟨x0, x1, x2, x3, x4⟩ = false) := hide hn
      clear hn
      go_wp2_with fail
      go_ret
      exact ⟨ret_bool e2.out.symm, HB.out⟩
end Go.Proofs.Ytjklhacffdhgaaa
