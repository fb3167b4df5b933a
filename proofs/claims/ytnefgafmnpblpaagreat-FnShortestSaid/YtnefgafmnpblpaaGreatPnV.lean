/- Contracts: whether rings and profiles are valid, on both sides. -/
import Derived.Test.YtnefgafmnpblpaaGreatPnC
namespace Go.Proofs.YtnefgafmnpblpaaGreat
open Go.RowKit Pn

def ringB (r : RingR) : Bool := inB r.outer 500 150000 && (inB r.inner 0 (r.outer - 100) && inB r.hgt 10 300000)
theorem ringB_iff {r : RingR} : ringB r = true ↔ RingOK r := by
  unfold ringB inB
  simp only [Bool.and_eq_true, decide_eq_true_eq]
  constructor
  · rintro ⟨⟨a, b⟩, ⟨c, d⟩, e, f⟩; exact ⟨⟨a, b⟩, ⟨c, d⟩, ⟨e, f⟩⟩
  · rintro ⟨⟨a, b⟩, ⟨c, d⟩, ⟨e, f⟩⟩; exact ⟨⟨a, b⟩, ⟨c, d⟩, e, f⟩
set_option maxRecDepth 100000 in
theorem implValidRing (x0 x1 x2 : Int) (w : World) : Calls Tryz.prog 155 #[.agg #[.int .i64 x0, .int .i64 x1, .int .i64 x2]] w fun e w' => e = .returned (.bool (ringB ⟨x0, x1, x2⟩)) ∧ Below w.heap.size w w' := by
  cases h0 : inB x0 500 150000
  · have E := hide (show ringB ⟨x0, x1, x2⟩ = false by simp [ringB, h0])
    go_enter Tryz.func155, Tryz.ntmps155
    go_wp2_with (go_at_call 120; refine (implwithin_is _ _ _ _ (by assumption) _).mono ?_; rintro e w' ⟨rfl, rfl⟩)
    go_ret
    exact ⟨ret_bool E.out.symm, (by repeat (first | with_reducible exact Below.refl _ _ | with_reducible assumption | (with_reducible refine Below.drew ?_) | (with_reducible refine below_drewN ?_ _) | ((with_reducible refine Below.alloc ?_ ?_ _); rotate_left; (focus (first | omega | (simp; omega) | simp))) | ((with_reducible refine Below.setCell ?_ ?_ _); rotate_left; (focus (first | omega | (simp; omega) | simp))) | (refine Below.trans ?_ (Below.mono (by assumption) (by first | omega | (simp; omega) | simp)))))⟩
  · have hi := inB_true h0
    have kw : IntKind.i64.wrap (x0 - 100) = x0 - 100 := IntWalk.i64_in _ (by omega)
    clear hi
    cases h1 : inB x1 0 (x0 - 100)
    · have E := hide (show ringB ⟨x0, x1, x2⟩ = false by simp [ringB, h1])
      go_enter Tryz.func155, Tryz.ntmps155
      go_wp2_with (go_at_call 120; refine (implwithin_is _ _ _ _ (by assumption) _).mono ?_; rintro e w' ⟨rfl, rfl⟩)
      go_ret
      exact ⟨ret_bool E.out.symm, (by repeat (first | with_reducible exact Below.refl _ _ | with_reducible assumption | (with_reducible refine Below.drew ?_) | (with_reducible refine below_drewN ?_ _) | ((with_reducible refine Below.alloc ?_ ?_ _); rotate_left; (focus (first | omega | (simp; omega) | simp))) | ((with_reducible refine Below.setCell ?_ ?_ _); rotate_left; (focus (first | omega | (simp; omega) | simp))) | (refine Below.trans ?_ (Below.mono (by assumption) (by first | omega | (simp; omega) | simp)))))⟩
    · cases h2 : inB x2 10 300000
      · have E := hide (show ringB ⟨x0, x1, x2⟩ = false by simp [ringB, h2])
        go_enter Tryz.func155, Tryz.ntmps155
        go_wp2_with (go_at_call 120; refine (implwithin_is _ _ _ _ (by assumption) _).mono ?_; rintro e w' ⟨rfl, rfl⟩)
        go_ret
        exact ⟨ret_bool E.out.symm, (by repeat (first | with_reducible exact Below.refl _ _ | with_reducible assumption | (with_reducible refine Below.drew ?_) | (with_reducible refine below_drewN ?_ _) | ((with_reducible refine Below.alloc ?_ ?_ _); rotate_left; (focus (first | omega | (simp; omega) | simp))) | ((with_reducible refine Below.setCell ?_ ?_ _); rotate_left; (focus (first | omega | (simp; omega) | simp))) | (refine Below.trans ?_ (Below.mono (by assumption) (by first | omega | (simp; omega) | simp)))))⟩
      · have E := hide (show ringB ⟨x0, x1, x2⟩ = true by simp [ringB, h0, h1, h2])
        go_enter Tryz.func155, Tryz.ntmps155
        go_wp2_with (go_at_call 120; refine (implwithin_is _ _ _ _ (by assumption) _).mono ?_; rintro e w' ⟨rfl, rfl⟩)
        go_ret
        exact ⟨ret_bool E.out.symm, (by repeat (first | with_reducible exact Below.refl _ _ | with_reducible assumption | (with_reducible refine Below.drew ?_) | (with_reducible refine below_drewN ?_ _) | ((with_reducible refine Below.alloc ?_ ?_ _); rotate_left; (focus (first | omega | (simp; omega) | simp))) | ((with_reducible refine Below.setCell ?_ ?_ _); rotate_left; (focus (first | omega | (simp; omega) | simp))) | (refine Below.trans ?_ (Below.mono (by assumption) (by first | omega | (simp; omega) | simp)))))⟩
set_option maxRecDepth 100000 in
theorem specl05Ring (bl off : Nat) (x0 x1 x2 : Int) (w : World) (c0 : w.cell? ⟨bl, off, none⟩ = some (.int .i64 x0)) (c1 : w.cell? ⟨bl, off + 1, none⟩ = some (.int .i64 x1)) (c2 : w.cell? ⟨bl, off + 2, none⟩ = some (.int .i64 x2)) :
    Calls Tryz.prog 126 #[.pointer (some ⟨bl, off, none⟩)] w fun e w' => e = .returned (.bool (ringB ⟨x0, x1, x2⟩)) ∧ Below w.heap.size w w' := by
  have hbl : bl < w.heap.size := World.block_lt_of_cell? w _ c0
  cases h0 : inB x0 500 150000
  · have E := hide (show ringB ⟨x0, x1, x2⟩ = false by simp [ringB, h0])
    go_enter Tryz.func126, Tryz.ntmps126
    go_wp2_with fail
    refine wp_region_kept (by kernel_rfl) (by kernel_rfl) ?_
    intro gc gf gz
    repeat (go_big_quiet_step ((go_at_call 109; exact Calls.kept_same (specl00In_is _ _ _ _ (by assumption) _))))
    refine wpQuiet_nil ?_
    intro w1 hw'
    obtain ⟨⟨_, hb1⟩, rfl⟩ := hw'
    clear gc gf gz
    try dsimp only
    have fs1 := hb1.size
    try simp at fs1 hb1
    go_wp2_with fail
    go_ret
    exact ⟨ret_bool E.out.symm, hb1⟩
  · have hi := inB_true h0
    have kw : IntKind.i64.wrap (x0 - 100) = x0 - 100 := IntWalk.i64_in _ (by omega)
    clear hi
    cases h1 : inB x1 0 (x0 - 100)
    · have E := hide (show ringB ⟨x0, x1, x2⟩ = false by simp [ringB, h1])
      go_enter Tryz.func126, Tryz.ntmps126
      go_wp2_with fail
      refine wp_region_kept (by kernel_rfl) (by kernel_rfl) ?_
      intro gc gf gz
      repeat (go_big_quiet_step ((go_at_call 109; exact Calls.kept_same (specl00In_is _ _ _ _ (by assumption) _))))
      refine wpQuiet_nil ?_
      intro w1 hw'
      obtain ⟨⟨_, hb1⟩, rfl⟩ := hw'
      clear gc gf gz
      try dsimp only
      have fs1 := hb1.size
      try simp at fs1 hb1
      go_wp2_with fail
      go_ret
      exact ⟨ret_bool E.out.symm, hb1⟩
    · cases h2 : inB x2 10 300000
      · have E := hide (show ringB ⟨x0, x1, x2⟩ = false by simp [ringB, h2])
        go_enter Tryz.func126, Tryz.ntmps126
        go_wp2_with fail
        refine wp_region_kept (by kernel_rfl) (by kernel_rfl) ?_
        intro gc gf gz
        repeat (go_big_quiet_step ((go_at_call 109; exact Calls.kept_same (specl00In_is _ _ _ _ (by assumption) _))))
        refine wpQuiet_nil ?_
        intro w1 hw'
        obtain ⟨⟨_, hb1⟩, rfl⟩ := hw'
        clear gc gf gz
        try dsimp only
        have fs1 := hb1.size
        try simp at fs1 hb1
        go_wp2_with fail
        go_ret
        exact ⟨ret_bool E.out.symm, hb1⟩
      · have E := hide (show ringB ⟨x0, x1, x2⟩ = true by simp [ringB, h0, h1, h2])
        go_enter Tryz.func126, Tryz.ntmps126
        go_wp2_with fail
        refine wp_region_kept (by kernel_rfl) (by kernel_rfl) ?_
        intro gc gf gz
        repeat (go_big_quiet_step ((go_at_call 109; exact Calls.kept_same (specl00In_is _ _ _ _ (by assumption) _))))
        refine wpQuiet_nil ?_
        intro w1 hw'
        obtain ⟨⟨_, hb1⟩, rfl⟩ := hw'
        clear gc gf gz
        try dsimp only
        have fs1 := hb1.size
        try simp at fs1 hb1
        go_wp2_with fail
        go_ret
        exact ⟨ret_bool E.out.symm, hb1⟩
/-- Whether two rings lie on each other. -/
def joinB (x y : RingR) : Bool := decide (x.inner < y.outer) && decide (y.inner < x.outer)
set_option maxRecDepth 100000 in
theorem specl05Joined (bl o1 o2 : Nat) (x0 x1 x2 y0 y1 y2 : Int) (w : World) (c0 : w.cell? ⟨bl, o1, none⟩ = some (.int .i64 x0)) (c1 : w.cell? ⟨bl, o1 + 1, none⟩ = some (.int .i64 x1)) (d0 : w.cell? ⟨bl, o2, none⟩ = some (.int .i64 y0)) (d1 : w.cell? ⟨bl, o2 + 1, none⟩ = some (.int .i64 y1)) :
    Calls Tryz.prog 127 #[.pointer (some ⟨bl, o1, none⟩), .pointer (some ⟨bl, o2, none⟩)] w fun e w' => e = .returned (.bool (joinB ⟨x0, x1, x2⟩ ⟨y0, y1, y2⟩)) ∧ Below w.heap.size w w' := by
  have hbl : bl < w.heap.size := World.block_lt_of_cell? w _ c0
  cases h0 : decide (x1 < y0)
  · have E := hide (show joinB ⟨x0, x1, x2⟩ ⟨y0, y1, y2⟩ = false by simp [joinB, h0])
    go_enter Tryz.func127, Tryz.ntmps127
    go_wp2_with fail
    refine wp_region_kept (by kernel_rfl) (by kernel_rfl) ?_
    intro gc gf gz
    repeat (go_big_quiet_step (fail))
    refine wpQuiet_nil ?_
    intro w1 hw'
    obtain ⟨⟨_, hb1⟩, rfl⟩ := hw'
    clear gc gf gz
    try dsimp only
    have fs1 := hb1.size
    try simp at fs1 hb1
    go_wp2_with fail
    go_ret
    exact ⟨ret_bool E.out.symm, hb1⟩
  · cases h1 : decide (y1 < x0)
    · have E := hide (show joinB ⟨x0, x1, x2⟩ ⟨y0, y1, y2⟩ = false by simp [joinB, h1])
      go_enter Tryz.func127, Tryz.ntmps127
      go_wp2_with fail
      refine wp_region_kept (by kernel_rfl) (by kernel_rfl) ?_
      intro gc gf gz
      repeat (go_big_quiet_step (fail))
      refine wpQuiet_nil ?_
      intro w1 hw'
      obtain ⟨⟨_, hb1⟩, rfl⟩ := hw'
      clear gc gf gz
      try dsimp only
      have fs1 := hb1.size
      try simp at fs1 hb1
      go_wp2_with fail
      go_ret
      exact ⟨ret_bool E.out.symm, hb1⟩
    · have E := hide (show joinB ⟨x0, x1, x2⟩ ⟨y0, y1, y2⟩ = true by simp [joinB, h0, h1])
      go_enter Tryz.func127, Tryz.ntmps127
      go_wp2_with fail
      refine wp_region_kept (by kernel_rfl) (by kernel_rfl) ?_
      intro gc gf gz
      repeat (go_big_quiet_step (fail))
      refine wpQuiet_nil ?_
      intro w1 hw'
      obtain ⟨⟨_, hb1⟩, rfl⟩ := hw'
      clear gc gf gz
      try dsimp only
      have fs1 := hb1.size
      try simp at fs1 hb1
      go_wp2_with fail
      go_ret
      exact ⟨ret_bool E.out.symm, hb1⟩
theorem hsum_bd {rs : List RingR} (h : ∀ k, k < rs.length → RingOK (rg rs k)) : ∀ k, k ≤ rs.length → 0 ≤ hsum rs k ∧ hsum rs k ≤ 300000 * (k : Int)
  | 0, _ => by simp [hsum]
  | k + 1, hk => by
    have a := hsum_bd h k (by omega)
    have b := (h k (by omega)).h
    unfold hsum
    omega
theorem SlAt.getR {w : World} {A : Option Addr} {rs : List RingR} (h : SlAt encRing 3 w A rs) (h0 : 0 < rs.length) : ∃ b o, A = some ⟨b, o, none⟩ ∧ b < w.heap.size ∧ ∀ j, j < rs.length → w.cell? ⟨b, o + j * 3, none⟩ = some (.int .i64 (rg rs j).outer) ∧ w.cell? ⟨b, o + j * 3 + 1, none⟩ = some (.int .i64 (rg rs j).inner) ∧ w.cell? ⟨b, o + j * 3 + 2, none⟩ = some (.int .i64 (rg rs j).hgt) := by
  obtain ⟨b, o, rfl, hb, _⟩ := h 0 h0
  refine ⟨b, o, rfl, hb, fun j hj => ?_⟩
  obtain ⟨b', o', e, _, hc⟩ := h j hj
  injection e with e; injection e with e1 e2; subst e1; subst e2
  rw [rg_eq hj] at hc
  exact ⟨by simpa using hc 0 _ rfl, hc 1 _ rfl, hc 2 _ rfl⟩
/-- A profile lies in a block. -/
structure ProfAt (w : World) (bp : Nat) (nm : ByteArray) (A : Option Addr) (c : Nat) (rs : List RingR) : Prop where
  lt : bp < w.heap.size
  c0 : w.cell? ⟨bp, 0, none⟩ = some (.string nm)
  c1 : w.cell? ⟨bp, 1, none⟩ = some (.slice A rs.length c)
  sl : SlAt encRing 3 w A rs
theorem ProfAt.below {w w' : World} {bp : Nat} {nm : ByteArray} {A : Option Addr} {c : Nat} {rs : List RingR} (h : ProfAt w bp nm A c rs) (hb : Below w.heap.size w w') : ProfAt w' bp nm A c rs :=
  ⟨Nat.lt_of_lt_of_le h.lt hb.size, (hb.cell (p := ⟨bp, 0, none⟩) h.lt).trans h.c0, (hb.cell (p := ⟨bp, 1, none⟩) h.lt).trans h.c1, h.sl.below hb⟩
theorem ProfAt.new {w : World} {nm : ByteArray} {A : Option Addr} {c : Nat} {rs : List RingR} (h : SlAt encRing 3 w A rs) : ProfAt (w.alloc (.cells #[.string nm, .slice A rs.length c] 30)) w.heap.size nm A c rs :=
  ⟨by simp, by simp, by simp, h.below ((Below.refl _ _).alloc (Nat.le_refl _) _)⟩
set_option maxRecDepth 100000 in
theorem implheight (nm : ByteArray) (A : Option Addr) (c : Nat) (rs : List RingR) (w : World) (h : SlAt encRing 3 w A rs) (h32 : rs.length ≤ 32) (HR : Hid (∀ k, k < rs.length → RingOK (rg rs k))) :
    Calls Tryz.prog 156 #[.agg #[.string nm, .slice A rs.length c]] w fun e w' => e = .returned (.int .i64 (hsum rs rs.length)) ∧ Below w.heap.size w w' := by
  have HX := hide (h.below ((Below.refl _ _).alloc (Nat.le_refl _) (.cells #[.string nm, .slice A rs.length c] 30)))
  have HB0 := hide (show Below w.heap.size w (w.alloc (.cells #[.string nm, .slice A rs.length c] 30)) from (by repeat (first | with_reducible exact Below.refl _ _ | with_reducible assumption | (with_reducible refine Below.drew ?_) | (with_reducible refine below_drewN ?_ _) | ((with_reducible refine Below.alloc ?_ ?_ _); rotate_left; (focus (first | omega | (simp; omega) | simp))) | ((with_reducible refine Below.setCell ?_ ?_ _); rotate_left; (focus (first | omega | (simp; omega) | simp))) | (refine Below.trans ?_ (Below.mono (by assumption) (by first | omega | (simp; omega) | simp))))))
  clear h
  go_enter Tryz.func156, Tryz.ntmps156
  go_wp2_with fail
  generalize w.alloc (.cells #[.string nm, .slice A rs.length c] 30) = w1 at *
  go_loopw [9, 3, 5] (fun v s _ wr => ∃ k : Nat, v = .int .i64 k ∧ s = .int .i64 (hsum rs k) ∧ k ≤ rs.length ∧ Hid (Below w1.heap.size w1 wr)) (fun v _ _ _ => rs.length - (intOf v).toNat)
  case atStart => exact ⟨0, rfl, rfl, by omega, hide (Below.refl _ _)⟩
  case round =>
    obtain ⟨k, rfl, rfl, hk, HB⟩ := hrel
    have hz := HB.out.size
    by_cases hlt : k < rs.length
    · obtain ⟨b, o, rfl, hb, hc⟩ := (HX.out.below HB.out).getR (by omega)
      obtain ⟨q0, q1, q2⟩ := hc k hlt
      have hs := hsum_bd HR.out k hk
      have E := hide (show hsum rs k + (rg rs k).hgt = hsum rs (k + 1) from rfl)
      have hh := (HR.out k hlt).h
      clear hc
      generalize hsum rs k = s at *
      generalize rg rs k = x at *
      obtain ⟨x0, x1, x2⟩ := x
      simp only at q0 q1 q2 hh E
      go_wp2_with fail
      go_roundw
      case rel => exact ⟨k + 1, by go_num, by rw [← E.out], by omega, hide (HB.out.trans (by repeat (first | with_reducible exact Below.refl _ _ | with_reducible assumption | (with_reducible refine Below.drew ?_) | (with_reducible refine below_drewN ?_ _) | ((with_reducible refine Below.alloc ?_ ?_ _); rotate_left; (focus (first | omega | (simp; omega) | simp))) | ((with_reducible refine Below.setCell ?_ ?_ _); rotate_left; (focus (first | omega | (simp; omega) | simp))) | (refine Below.trans ?_ (Below.mono (by assumption) (by first | omega | (simp; omega) | simp))))))⟩
      case measure => simp [intOf]; omega
    · obtain rfl : k = rs.length := by omega
      go_wp2_with fail
      go_ret
      exact ⟨rfl, HB0.out.trans (HB.out.mono HB0.out.size)⟩
set_option maxRecDepth 100000 in
theorem specl05Height (bp : Nat) (nm : ByteArray) (A : Option Addr) (c : Nat) (rs : List RingR) (w : World) (h : ProfAt w bp nm A c rs) (h32 : rs.length ≤ 32) (HR : Hid (∀ k, k < rs.length → RingOK (rg rs k))) :
    Calls Tryz.prog 128 #[.pointer (some ⟨bp, 0, none⟩)] w fun e w' => e = .returned (.int .i64 (hsum rs rs.length)) ∧ Below w.heap.size w w' := by
  have c0 := h.c0
  have c1 := h.c1
  have HX := hide h.sl
  clear h
  go_enter Tryz.func128, Tryz.ntmps128
  go_wp2_with fail
  go_loopw [4, 3] (fun v s wr => ∃ k : Nat, v = .int .i64 k ∧ s = .int .i64 (hsum rs k) ∧ k ≤ rs.length ∧ w = wr) (fun v _ _ => rs.length - (intOf v).toNat)
  case atStart => exact ⟨0, rfl, rfl, by omega, rfl⟩
  case round =>
    obtain ⟨k, rfl, rfl, hk, rfl⟩ := hrel
    by_cases hlt : k < rs.length
    · obtain ⟨b, o, rfl, hb, hc⟩ := HX.out.getR (by omega)
      obtain ⟨q0, q1, q2⟩ := hc k hlt
      have hs := hsum_bd HR.out k hk
      have E := hide (show hsum rs k + (rg rs k).hgt = hsum rs (k + 1) from rfl)
      have hh := (HR.out k hlt).h
      clear hc
      generalize hsum rs k = s at *
      generalize rg rs k = x at *
      obtain ⟨x0, x1, x2⟩ := x
      simp only at q0 q1 q2 hh E
      go_wp2_with fail
      go_roundw
      case rel => exact ⟨k + 1, by go_num, by rw [← E.out], by omega, trivial⟩
      case measure => simp [intOf]; omega
    · obtain rfl : k = rs.length := by omega
      go_wp2_with fail
      go_ret
      exact ⟨rfl, Below.refl _ _⟩
set_option maxRecDepth 100000 in
theorem vpc1_is (x0 x1 x2 : Int) (b : Bool) (w : World) (hb : Hid ((fun x : RingR => !ringB x) ⟨x0, x1, x2⟩ = b)) :
    Calls Tryz.prog 154 #[.agg #[.int .i64 x0, .int .i64 x1, .int .i64 x2]] w fun e w' => e = .returned (.bool b) ∧ Below w.heap.size w w' := by
  go_enter Tryz.func154, Tryz.ntmps154
  go_wp2_with fail
  refine (implValidRing _ _ _ _).mono ?_
  rintro e w1 ⟨rfl, hb1⟩
  have HB := hide (Below.trans (show Below w.heap.size w (w.alloc (.cells #[.int .i64 x0, .int .i64 x1, .int .i64 x2] 156)) from (by repeat (first | with_reducible exact Below.refl _ _ | with_reducible assumption | (with_reducible refine Below.drew ?_) | (with_reducible refine below_drewN ?_ _) | ((with_reducible refine Below.alloc ?_ ?_ _); rotate_left; (focus (first | omega | (simp; omega) | simp))) | ((with_reducible refine Below.setCell ?_ ?_ _); rotate_left; (focus (first | omega | (simp; omega) | simp))) | (refine Below.trans ?_ (Below.mono (by assumption) (by first | omega | (simp; omega) | simp)))))) (hb1.mono (by simp)))
  clear hb1
  go_wp2_with fail
  go_ret
  exact ⟨ret_bool hb.out, HB.out⟩
set_option maxRecDepth 100000 in
theorem vpc_idx (A : Option Addr) (c : Nat) (xs : List RingR)  (w : World) (h : SlAt encRing 3 w A xs) (hn : xs.length ≤ 1048576) :
    Calls Tryz.prog 180 #[.slice A xs.length c, .func (.func 154) #[] #[]] w fun e w' => ∃ r : Int, e = .returned (.int .i64 r) ∧ decide (0 ≤ r) = xs.any (fun x : RingR => !ringB x) ∧ Below w.heap.size w w' := by
  have HX := hide h
  clear h
  go_enter Tryz.func180, Tryz.ntmps180
  go_wp2_with fail
  go_loopw [8, 5] (fun v _ wr => ∃ k : Nat, v = .int .i64 k ∧ k ≤ xs.length ∧ Hid (∀ j (hj : j < xs.length), j < k → (fun x : RingR => !ringB x) xs[j] = false) ∧ Hid (Below w.heap.size w wr)) (fun v _ _ => xs.length - (intOf v).toNat)
  case atStart => exact ⟨0, rfl, by omega, hide fun j _ h => by omega, hide (Below.refl _ _)⟩
  case round =>
    obtain ⟨k, rfl, hk, HJ, HB⟩ := hrel
    have hz := HB.out.size
    by_cases hlt : k < xs.length
    · obtain ⟨b, off, rfl, hbl, hc⟩ := (HX.out.below HB.out) k hlt
      have hc0 := hc 0 _ rfl
      have hc1 := hc 1 _ rfl
      have hc2 := hc 2 _ rfl
      simp only [Nat.add_zero] at hc0
      have HE : Hid ((fun x : RingR => !ringB x) xs[k] = true → xs.any (fun x : RingR => !ringB x) = true) := hide fun h1 => List.any_eq_true.2 ⟨xs[k], List.getElem_mem hlt, h1⟩
      have HS : Hid ((fun x : RingR => !ringB x) xs[k] = false → ∀ j (hj : j < xs.length), j < k + 1 → (fun x : RingR => !ringB x) xs[j] = false) := hide fun h1 j hj h2 => by
        by_cases e : j = k
        · subst e; exact h1
        · exact HJ.out j hj (by omega)
      clear hc HJ
      generalize xs[k] = x at *
      obtain ⟨x0, x1, x2⟩ := x
      simp only at hc0 hc1 hc2
      cases hp : (fun x : RingR => !ringB x) (⟨x0, x1, x2⟩ : RingR)
      · have HS2 := hide (HS.out hp)
        clear HS HE
        go_wp2_with (go_at_call 154; refine (vpc1_is x0 x1 x2  _ _ (hide hp)).mono ?_; rintro e w2 ⟨rfl, hb2⟩)
        go_roundw
        case rel => exact ⟨k + 1, by go_num, by omega, HS2, hide (HB.out.trans (hb2.mono hz))⟩
        case measure => simp [intOf]; omega
      · have E := hide (HE.out hp)
        clear HS HE
        go_wp2_with (go_at_call 154; refine (vpc1_is x0 x1 x2  _ _ (hide hp)).mono ?_; rintro e w2 ⟨rfl, hb2⟩)
        go_ret
        exact ⟨_, rfl, by rw [E.out]; simp, HB.out.trans (hb2.mono hz)⟩
    · have E : Hid (xs.any (fun x : RingR => !ringB x) = false) := hide (by
        rw [List.any_eq_false]
        intro x hx
        obtain ⟨j, hj, rfl⟩ := List.getElem_of_mem hx
        have h3 := HJ.out j hj (by omega)
        exact fun q => absurd (h3.symm.trans q) (by decide))
      clear HJ
      go_wp2_with fail
      go_ret
      exact ⟨-1, rfl, by rw [E.out]; rfl, HB.out⟩
set_option maxRecDepth 100000 in
theorem vpc_is (A : Option Addr) (c : Nat) (xs : List RingR)  (b : Bool) (w : World) (h : SlAt encRing 3 w A xs) (hn : xs.length ≤ 1048576) (hb : Hid (xs.any (fun x : RingR => !ringB x) = b)) :
    Calls Tryz.prog 153 #[.slice A xs.length c, .func (.func 154) #[] #[]] w fun e w' => e = .returned (.bool b) ∧ Below w.heap.size w w' := by
  have HI := hide (vpc_idx A c xs  w h hn)
  clear h
  go_enter Tryz.func153, Tryz.ntmps153
  go_wp2_with fail
  refine HI.out.mono ?_
  rintro e w1 ⟨r, rfl, hr, hb1⟩
  have HR := hide (hr.trans hb.out)
  have HB := hide hb1
  clear hr hb1 HI
  go_wp2_with fail
  go_ret
  exact ⟨ret_bool HR.out, HB.out⟩
theorem specl05Ring_is (bl off : Nat) (x0 x1 x2 : Int) (b : Bool) (w : World) (c0 : w.cell? ⟨bl, off, none⟩ = some (.int .i64 x0)) (c1 : w.cell? ⟨bl, off + 1, none⟩ = some (.int .i64 x1)) (c2 : w.cell? ⟨bl, off + 2, none⟩ = some (.int .i64 x2)) (h : ringB ⟨x0, x1, x2⟩ = b) :
    Calls Tryz.prog 126 #[.pointer (some ⟨bl, off, none⟩)] w fun e w' => e = .returned (.bool b) ∧ Below w.heap.size w w' := by
  subst h; exact specl05Ring bl off x0 x1 x2 w c0 c1 c2
theorem specl05Joined_is (bl o1 o2 : Nat) (x0 x1 x2 y0 y1 y2 : Int) (b : Bool) (w : World) (c0 : w.cell? ⟨bl, o1, none⟩ = some (.int .i64 x0)) (c1 : w.cell? ⟨bl, o1 + 1, none⟩ = some (.int .i64 x1)) (d0 : w.cell? ⟨bl, o2, none⟩ = some (.int .i64 y0)) (d1 : w.cell? ⟨bl, o2 + 1, none⟩ = some (.int .i64 y1)) (h : joinB ⟨x0, x1, x2⟩ ⟨y0, y1, y2⟩ = b) :
    Calls Tryz.prog 127 #[.pointer (some ⟨bl, o1, none⟩), .pointer (some ⟨bl, o2, none⟩)] w fun e w' => e = .returned (.bool b) ∧ Below w.heap.size w w' := by
  subst h; exact specl05Joined bl o1 o2 x0 x1 x2 y0 y1 y2 w c0 c1 d0 d1
theorem joinB_iff {x y : RingR} : joinB x y = true ↔ x.inner < y.outer ∧ y.inner < x.outer := by unfold joinB; simp
theorem two_first (w : World) (o1 o2 : Obj) : (((w.alloc o1).alloc o2).drew).heap[w.heap.size]? = some o1 := by
  have h1 := heap_alloc_new w o1
  have hb : Below (w.alloc o1).heap.size (w.alloc o1) ((w.alloc o1).alloc o2).drew := ((Below.refl _ _).alloc (Nat.le_refl _) _).drew
  exact (hb.block w.heap.size (by simp)).trans h1
theorem two_second (w : World) (o1 o2 : Obj) : (((w.alloc o1).alloc o2).drew).heap[w.heap.size + 1]? = some o2 := by
  have h1 := heap_alloc_new (w.alloc o1) o2
  have hb : Below ((w.alloc o1).alloc o2).heap.size ((w.alloc o1).alloc o2) ((w.alloc o1).alloc o2).drew := (Below.refl _ _).drew
  have := (hb.block (w.alloc o1).heap.size (by simp)).trans h1
  simpa using this
/-- Whether a profile is valid. -/
noncomputable def profB (nm : ByteArray) (rs : List RingR) : Bool := nameB nm.data.toList && dc (RingsOK rs)
theorem profB_true {nm : ByteArray} {rs : List RingR} (h : profB nm rs = true) : nameB nm.data.toList = true ∧ RingsOK rs := by
  unfold profB at h; rw [Bool.and_eq_true] at h; exact ⟨h.1, of_dc h.2⟩
theorem profB_name {nm : ByteArray} {rs : List RingR} (h : nameB nm.data.toList = false) : profB nm rs = false := by unfold profB; rw [h]; rfl
theorem profB_not {nm : ByteArray} {rs : List RingR} (h : ¬ RingsOK rs) : profB nm rs = false := by unfold profB; rw [dc_false h, Bool.and_false]
theorem profB_ok {nm : ByteArray} {rs : List RingR} (h : nameB nm.data.toList = true) (h2 : RingsOK rs) : profB nm rs = true := by unfold profB; rw [h, dc_true h2]; rfl
theorem profB_fin {nm : ByteArray} {rs : List RingR} (h : nameB nm.data.toList = true) (h1 : 1 ≤ rs.length) (h2 : rs.length ≤ 32) (h3 : ∀ k, k < rs.length → RingOK (rg rs k)) (h4 : ∀ k, k + 1 < rs.length → joinB (rg rs k) (rg rs (k + 1)) = true) : profB nm rs = decide (hsum rs rs.length ≤ 300000) := by
  by_cases e : hsum rs rs.length ≤ 300000
  · rw [profB_ok h ⟨h1, h2, h3, fun k hk => joinB_iff.1 (h4 k hk), e⟩]; simp [e]
  · rw [profB_not fun q => e q.hgt]; simp [e]
theorem any_ring {rs : List RingR} (h : (rs.any fun x : RingR => !ringB x) = false) : ∀ k, k < rs.length → RingOK (rg rs k) := fun k hk => by
  rw [List.any_eq_false] at h
  have := h rs[k] (List.getElem_mem hk)
  rw [rg_eq hk] at this
  exact ringB_iff.1 (by simpa using this)
theorem any_ring_bad {rs : List RingR} (h : (rs.any fun x : RingR => !ringB x) = true) : ¬ RingsOK rs := fun q => by
  obtain ⟨x, hx, h1⟩ := List.any_eq_true.1 h
  obtain ⟨k, hk, rfl⟩ := List.getElem_of_mem hx
  rw [rg_eq hk] at h1
  rw [ringB_iff.2 (q.ring k hk)] at h1
  cases h1
set_option maxRecDepth 100000 in
set_option maxHeartbeats 1000000 in
theorem specl05Ok (bp : Nat) (nm : ByteArray) (A : Option Addr) (c : Nat) (rs : List RingR) (w : World) (h : ProfAt w bp nm A c rs) (hn : rs.length ≤ 1048576) (hs : nm.size ≤ maxLen) :
    Calls Tryz.prog 65 #[.pointer (some ⟨bp, 0, none⟩)] w fun e w' => e = .returned (.bool (profB nm rs)) ∧ Below w.heap.size w w' := by
  have c0 := h.c0
  have c1 := h.c1
  have HP := hide h
  clear h
  cases hN : nameB nm.data.toList
  · have E := hide (profB_name (rs := rs) hN)
    go_enter Tryz.func65, Tryz.ntmps65
    go_wp2_with (go_at_call 125; refine (l01Name_any _ _ hs).mono ?_; rintro e w1 ⟨rfl, rfl⟩)
    go_ret
    exact ⟨ret_bool E.out.symm, Below.refl _ _⟩
  · by_cases h1 : rs.length < 1
    · have E := hide (profB_not (nm := nm) (rs := rs) fun q => by have := q.len1; omega)
      have h0 : rs.length = 0 := by omega
      rw [h0] at c1
      clear h1
      go_enter Tryz.func65, Tryz.ntmps65
      go_wp2_with (go_at_call 125; refine (l01Name_any _ _ hs).mono ?_; rintro e w1 ⟨rfl, rfl⟩)
      go_ret
      exact ⟨ret_bool E.out.symm, Below.refl _ _⟩
    · by_cases h2 : 32 < rs.length
      · have E := hide (profB_not (nm := nm) (rs := rs) fun q => by have := q.len32; omega)
        go_enter Tryz.func65, Tryz.ntmps65
        go_wp2_with (go_at_call 125; refine (l01Name_any _ _ hs).mono ?_; rintro e w1 ⟨rfl, rfl⟩)
        go_ret
        exact ⟨ret_bool E.out.symm, Below.refl _ _⟩
      · have HN := hide hN
        go_enter Tryz.func65, Tryz.ntmps65
        go_wp2_with (go_at_call 125; refine (l01Name_any _ _ hs).mono ?_; rintro e w1 ⟨rfl, rfl⟩)
        clear hN
        go_loopw [3] (fun v wr => ∃ k : Nat, v = .int .i64 k ∧ k ≤ rs.length ∧ Hid ((∀ j, j < k → RingOK (rg rs j)) ∧ ∀ j, j + 1 < k → joinB (rg rs j) (rg rs (j + 1)) = true) ∧ Hid (Below w.heap.size w wr)) (fun v _ => rs.length - (intOf v).toNat)
        case atStart => exact ⟨0, rfl, by omega, hide ⟨fun j hj => by omega, fun j hj => by omega⟩, hide (Below.refl _ _)⟩
        case round =>
          obtain ⟨k, rfl, hk, HJ, HB⟩ := hrel
          have hz := HB.out.size
          have HP2 := hide (HP.out.below HB.out)
          have d1 := HP2.out.c1
          have hbp := HP2.out.lt
          by_cases hlt : k < rs.length
          · obtain ⟨b, o, rfl, hb, hc⟩ := HP2.out.sl.getR (by omega)
            obtain ⟨q0, q1, q2⟩ := hc k hlt
            have HC := hide hc
            clear hc
            cases hr : ringB (rg rs k)
            · have E := hide (profB_not (nm := nm) (rs := rs) fun q => by rw [ringB_iff.2 (q.ring k hlt)] at hr; cases hr)
              generalize rg rs k = x at *
              obtain ⟨x0, x1, x2⟩ := x
              simp only at q0 q1 q2
              go_wp2_with fail
              refine wp_region_kept (by kernel_rfl) (by kernel_rfl) ?_
              intro gc gf gz
              repeat (go_big_quiet_step ((go_at_call 126; exact Calls.kept (specl05Ring_is b (o + k * 3) x0 x1 x2 _ _ (by go_simp) (by go_simp) (by go_simp) (by assumption)))))
              refine wpQuiet_nil ?_
              intro w1 hw'
              obtain ⟨⟨_, hb1⟩, rfl⟩ := hw'
              clear gc gf gz
              try dsimp only
              have fs1 := hb1.size
              try simp at fs1 hb1
              go_wp2_with fail
              go_ret
              exact ⟨ret_bool E.out.symm, HB.out.trans (hb1.mono hz)⟩
            · have HR1 := hide (ringB_iff.1 hr)
              by_cases h0 : 0 < k
              · have hi1 : ((k : Int) - 1) = ((k - 1 : Nat) : Int) := by omega
                have hd0 : decide (0 < (k : Int)) = true := by simp; omega
                obtain ⟨p0, p1, p2⟩ := HC.out (k - 1) (by omega)
                have hk1 : k - 1 < rs.length := by omega
                have HK : Hid (rg rs (k - 1 + 1) = rg rs k) := hide (by rw [show k - 1 + 1 = k by omega])
                cases hj : joinB (rg rs (k - 1)) (rg rs k)
                · have E := hide (profB_not (nm := nm) (rs := rs) fun q => by
                    have a := joinB_iff.2 (q.join (k - 1) (by omega))
                    rw [HK.out, hj] at a; cases a)
                  clear HJ HR1 HK HC
                  generalize rg rs (k - 1) = y at *
                  generalize rg rs k = x at *
                  obtain ⟨x0, x1, x2⟩ := x
                  obtain ⟨y0, y1, y2⟩ := y
                  simp only at q0 q1 q2 p0 p1 p2
                  go_wp2_with fail
                  refine wp_region_kept (by kernel_rfl) (by kernel_rfl) ?_
                  intro gc gf gz
                  repeat (go_big_quiet_step ((first | (go_at_call 126; exact Calls.kept (specl05Ring_is b (o + k * 3) x0 x1 x2 _ _ (by go_simp) (by go_simp) (by go_simp) (by assumption))) | (go_at_call 127; exact Calls.kept (specl05Joined_is b (o + (k - 1) * 3) (o + k * 3) y0 y1 y2 x0 x1 x2 _ _ (by go_simp) (by go_simp) (by go_simp) (by go_simp) (by assumption))))))
                  refine wpQuiet_nil ?_
                  intro w1 hw'
                  obtain ⟨⟨_, hb1⟩, rfl⟩ := hw'
                  clear gc gf gz
                  try dsimp only
                  have fs1 := hb1.size
                  try simp at fs1 hb1
                  go_wp2_with fail
                  go_ret
                  exact ⟨ret_bool E.out.symm, HB.out.trans (hb1.mono hz)⟩
                · have HN2 := hide (show (∀ j, j < k + 1 → RingOK (rg rs j)) ∧ ∀ j, j + 1 < k + 1 → joinB (rg rs j) (rg rs (j + 1)) = true from ⟨fun j hj2 => by
                    by_cases e : j = k
                    · subst e; exact HR1.out
                    · exact HJ.out.1 j (by omega), fun j hj2 => by
                    by_cases e : j + 1 = k
                    · have e2 : j = k - 1 := by omega
                      rw [e, e2]; exact hj
                    · exact HJ.out.2 j (by omega)⟩)
                  clear HJ HR1 HK HC
                  generalize hy : rg rs (k - 1) = y at *
                  generalize hx : rg rs k = x at *
                  clear hx hy
                  obtain ⟨x0, x1, x2⟩ := x
                  obtain ⟨y0, y1, y2⟩ := y
                  simp only at q0 q1 q2 p0 p1 p2
                  go_wp2_with fail
                  refine wp_region_kept (by kernel_rfl) (by kernel_rfl) ?_
                  intro gc gf gz
                  repeat (go_big_quiet_step ((first | (go_at_call 126; exact Calls.kept (specl05Ring_is b (o + k * 3) x0 x1 x2 _ _ (by go_simp) (by go_simp) (by go_simp) (by assumption))) | (go_at_call 127; exact Calls.kept (specl05Joined_is b (o + (k - 1) * 3) (o + k * 3) y0 y1 y2 x0 x1 x2 _ _ (by go_simp) (by go_simp) (by go_simp) (by go_simp) (by assumption))))))
                  refine wpQuiet_nil ?_
                  intro w1 hw'
                  obtain ⟨⟨_, hb1⟩, rfl⟩ := hw'
                  clear gc gf gz
                  try dsimp only
                  have fs1 := hb1.size
                  try simp at fs1 hb1
                  go_wp2_with fail
                  go_roundw
                  case rel => exact ⟨k + 1, by go_num, by omega, HN2, hide (HB.out.trans (hb1.mono hz))⟩
                  case measure => simp [intOf]; omega
              · have hd0 : decide (0 < (k : Int)) = false := by simp; omega
                have HN2 := hide (show (∀ j, j < k + 1 → RingOK (rg rs j)) ∧ ∀ j, j + 1 < k + 1 → joinB (rg rs j) (rg rs (j + 1)) = true from ⟨fun j hj2 => by
                  by_cases e : j = k
                  · subst e; exact HR1.out
                  · exact HJ.out.1 j (by omega), fun j hj2 => by omega⟩)
                clear HJ HR1 HC
                generalize hx : rg rs k = x at *
                clear hx
                obtain ⟨x0, x1, x2⟩ := x
                simp only at q0 q1 q2
                go_wp2_with fail
                refine wp_region_kept (by kernel_rfl) (by kernel_rfl) ?_
                intro gc gf gz
                repeat (go_big_quiet_step ((go_at_call 126; exact Calls.kept (specl05Ring_is b (o + k * 3) x0 x1 x2 _ _ (by go_simp) (by go_simp) (by go_simp) (by assumption)))))
                refine wpQuiet_nil ?_
                intro w1 hw'
                obtain ⟨⟨_, hb1⟩, rfl⟩ := hw'
                clear gc gf gz
                try dsimp only
                have fs1 := hb1.size
                try simp at fs1 hb1
                go_wp2_with fail
                go_roundw
                case rel => exact ⟨k + 1, by go_num, by omega, HN2, hide (HB.out.trans (hb1.mono hz))⟩
                case measure => simp [intOf]; omega
          · obtain rfl : k = rs.length := by omega
            have E := hide (profB_fin HN.out (by omega) (by omega) HJ.out.1 HJ.out.2)
            have HR := hide HJ.out.1
            clear HJ
            go_wp2_with fail
            refine (specl05Height bp nm A c rs _ HP2.out (by omega) HR).mono ?_
            rintro e w3 ⟨rfl, hb3⟩
            have HB3 := hide (HB.out.trans (hb3.mono hz))
            clear hb3
            go_wp2_with fail
            go_ret
            exact ⟨ret_bool E.out.symm, HB3.out⟩
set_option maxRecDepth 100000 in
set_option maxHeartbeats 1000000 in
theorem implValidProfile (nm : ByteArray) (A : Option Addr) (c : Nat) (rs : List RingR) (w : World) (h : SlAt encRing 3 w A rs) (hn : rs.length ≤ 1048576) (hs : nm.size ≤ maxLen) :
    Calls Tryz.prog 102 #[.agg #[.string nm, .slice A rs.length c]] w fun e w' => e = .returned (.bool (profB nm rs)) ∧ Below w.heap.size w w' := by
  have HP1 := hide (ProfAt.new (nm := nm) (c := c) h)
  have HB0 := hide (show Below w.heap.size w (w.alloc (.cells #[.string nm, .slice A rs.length c] 30)) from (by repeat (first | with_reducible exact Below.refl _ _ | with_reducible assumption | (with_reducible refine Below.drew ?_) | (with_reducible refine below_drewN ?_ _) | ((with_reducible refine Below.alloc ?_ ?_ _); rotate_left; (focus (first | omega | (simp; omega) | simp))) | ((with_reducible refine Below.setCell ?_ ?_ _); rotate_left; (focus (first | omega | (simp; omega) | simp))) | (refine Below.trans ?_ (Below.mono (by assumption) (by first | omega | (simp; omega) | simp))))))
  clear h
  cases hN : nameB nm.data.toList
  · have E := hide (profB_name (rs := rs) hN)
    go_enter Tryz.func102, Tryz.ntmps102
    go_wp2_with (go_at_call 152; refine (IsName_any _ _ hs).mono ?_; rintro e w1 ⟨rfl, hb1⟩)
    go_ret
    exact ⟨ret_bool E.out.symm, HB0.out.trans (hb1.mono (by simp))⟩
  · go_enter Tryz.func102, Tryz.ntmps102
    go_wp2_with fail
    refine (IsName_any _ _ hs).mono ?_
    rintro e w1 ⟨rfl, hb1⟩
    rw [hN]
    have HP := hide (HP1.out.below hb1)
    have HB1 := hide (HB0.out.trans (hb1.mono (by simp)))
    have c1 := HP.out.c1
    have HN := hide hN
    have hwb := HP.out.lt
    clear hb1 hN HP1 HB0
    by_cases h1 : rs.length < 1
    · have E := hide (profB_not (nm := nm) (rs := rs) fun q => by have := q.len1; omega)
      have h0 : rs.length = 0 := by omega
      rw [h0] at c1
      clear h1
      go_wp2_with fail
      go_ret
      exact ⟨ret_bool E.out.symm, HB1.out⟩
    · by_cases h2 : 32 < rs.length
      · have E := hide (profB_not (nm := nm) (rs := rs) fun q => by have := q.len32; omega)
        go_wp2_with fail
        go_ret
        exact ⟨ret_bool E.out.symm, HB1.out⟩
      · cases hany : rs.any fun x : RingR => !ringB x
        · have HR := hide (any_ring hany)
          have HA := hide hany
          clear hany
          go_wp2_with fail
          refine (vpc_is A c rs false _ HP.out.sl hn HA).mono ?_
          rintro e w2 ⟨rfl, hb2⟩
          have HP2 := hide (HP.out.below hb2)
          have HB2 := hide (HB1.out.trans (hb2.mono HB1.out.size))
          have hz2 := HB2.out.size
          have hb1z := hb2.size
          clear hb2 HP HB1 c1 HA
          go_wp2_with fail
          go_loopw [3, 4, 5] (fun v _ _ wr => ∃ k : Nat, v = .int .i64 ((k : Int) + 1) ∧ k < rs.length ∧ Hid (∀ j, j < k → joinB (rg rs j) (rg rs (j + 1)) = true) ∧ Hid (Below w2.heap.size w2 wr)) (fun v _ _ _ => rs.length + 1 - (intOf v).toNat)
          case atStart => exact ⟨0, rfl, by omega, hide fun j hj => by omega, hide (Below.refl _ _)⟩
          case round =>
            obtain ⟨k, rfl, hk, HJ, HB⟩ := hrel
            have hz := HB.out.size
            have HP3 := hide (HP2.out.below HB.out)
            have d1 := HP3.out.c1
            by_cases hlt : k + 1 < rs.length
            · obtain ⟨b, o, rfl, hb, hc⟩ := HP3.out.sl.getR (by omega)
              obtain ⟨p0, p1, p2⟩ := hc k (by omega)
              obtain ⟨q0, q1, q2⟩ := hc (k + 1) hlt
              have HS := hide (fun (h : joinB (rg rs k) (rg rs (k + 1)) = true) => show ∀ j, j < k + 1 → joinB (rg rs j) (rg rs (j + 1)) = true from fun j hj2 => by
                by_cases e : j = k
                · subst e; exact h
                · exact HJ.out j (by omega))
              have HE := hide (fun (h : joinB (rg rs k) (rg rs (k + 1)) = false) => profB_not (nm := nm) (rs := rs) fun q => by
                have a := joinB_iff.2 (q.join k (by omega))
                rw [h] at a; cases a)
              clear hc HJ
              generalize rg rs k = y at *
              generalize rg rs (k + 1) = x at *
              obtain ⟨x0, x1, x2⟩ := x
              obtain ⟨y0, y1, y2⟩ := y
              simp only at q0 q1 q2 p0 p1 p2
              have hbp := HP3.out.lt
              have kw : IntKind.i64.wrap (k : Int) = k := IntWalk.i64_in _ (by omega)
              have kl : (k : Int) < rs.length := by omega
              go_upto_region 6 with fail
              go_cut [4, 5] (fun s4 s5 wx => ∃ qa qb, s4 = .pointer (some ⟨qa, 0, none⟩) ∧ s5 = .pointer (some ⟨qb, 0, none⟩) ∧ Hid (wx.heap[qa]? = some (.cells #[.int .i64 y0, .int .i64 y1, .int .i64 y2] 156 (0, 0))) ∧ Hid (wx.heap[qb]? = some (.cells #[.int .i64 x0, .int .i64 x1, .int .i64 x2] 156 (0, 0))) ∧ Hid (Below w2.heap.size w2 wx))
              case first =>
                go_region
                all_goals
                  go_wp2_with fail
                  go_meet
                  first
                    | exact ⟨_, _, rfl, rfl, hide (two_first wr _ _), hide (two_second wr _ _), hide (HB.out.trans (by repeat (first | with_reducible exact Below.refl _ _ | with_reducible assumption | (with_reducible refine Below.drew ?_) | (with_reducible refine below_drewN ?_ _) | ((with_reducible refine Below.alloc ?_ ?_ _); rotate_left; (focus (first | omega | (simp; omega) | simp))) | ((with_reducible refine Below.setCell ?_ ?_ _); rotate_left; (focus (first | omega | (simp; omega) | simp))) | (refine Below.trans ?_ (Below.mono (by assumption) (by first | omega | (simp; omega) | simp))))))⟩
                    | exact ⟨_, _, rfl, rfl, hide (two_second wr _ _), hide (two_first wr _ _), hide (HB.out.trans (by repeat (first | with_reducible exact Below.refl _ _ | with_reducible assumption | (with_reducible refine Below.drew ?_) | (with_reducible refine below_drewN ?_ _) | ((with_reducible refine Below.alloc ?_ ?_ _); rotate_left; (focus (first | omega | (simp; omega) | simp))) | ((with_reducible refine Below.setCell ?_ ?_ _); rotate_left; (focus (first | omega | (simp; omega) | simp))) | (refine Below.trans ?_ (Below.mono (by assumption) (by first | omega | (simp; omega) | simp))))))⟩
              case rest =>
                obtain ⟨w3, rfl⟩ : ∃ w3, w3 = wc := ⟨_, rfl⟩
                obtain ⟨qa, qb, rfl, rfl, HA, HBB, HBX⟩ := hcut
                have ha := HA.out
                have hbb := HBB.out
                have y0' : w3.cell? ⟨qa, 0, none⟩ = some (.int .i64 y0) := by simp [World.cell?, ha]
                have y1' : w3.cell? ⟨qa, 1, none⟩ = some (.int .i64 y1) := by simp [World.cell?, ha]
                have x0' : w3.cell? ⟨qb, 0, none⟩ = some (.int .i64 x0) := by simp [World.cell?, hbb]
                have x1' : w3.cell? ⟨qb, 1, none⟩ = some (.int .i64 x1) := by simp [World.cell?, hbb]
                clear ha hbb
                cases h3 : decide (x0 ≤ y1)
                · cases h4 : decide (y0 ≤ x1)
                  · have E := hide (HS.out (joinB_iff.2 ⟨by simp at h3; simp; omega, by simp at h4; simp; omega⟩))
                    go_wp2_with fail
                    go_roundw
                    case rel => exact ⟨k + 1, by go_num, by omega, E, HBX⟩
                    case measure => simp [intOf]; omega
                  · have E := hide (HE.out (by
                      cases e : joinB ⟨y0, y1, y2⟩ ⟨x0, x1, x2⟩
                      · rfl
                      · have := joinB_iff.1 e; simp at h3 h4 this; omega))
                    go_wp2_with fail
                    go_ret
                    exact ⟨ret_bool E.out.symm, HB2.out.trans (HBX.out.mono HB2.out.size)⟩
                · have E := hide (HE.out (by
                    cases e : joinB ⟨y0, y1, y2⟩ ⟨x0, x1, x2⟩
                    · rfl
                    · have := joinB_iff.1 e; simp at h3 this; omega))
                  go_wp2_with fail
                  go_ret
                  exact ⟨ret_bool E.out.symm, HB2.out.trans (HBX.out.mono HB2.out.size)⟩
            · have E := hide (profB_fin (nm := nm) HN.out (by omega) (by omega) HR.out fun j hj => HJ.out j (by omega))
              clear HJ
              have d0 := HP3.out.c0
              have hbp := HP3.out.lt
              go_wp2_with fail
              refine (implheight nm A c rs _ HP3.out.sl (by omega) HR).mono ?_
              rintro e w3 ⟨rfl, hb3⟩
              have HB3 := hide (HB2.out.trans ((HB.out.trans (hb3.mono hz)).mono HB2.out.size))
              clear hb3
              go_wp2_with fail
              go_ret
              exact ⟨ret_bool E.out.symm, HB3.out⟩
        · have E := hide (profB_not (nm := nm) (any_ring_bad hany))
          have HA := hide hany
          clear hany
          go_wp2_with fail
          refine (vpc_is A c rs true _ HP.out.sl hn HA).mono ?_
          rintro e w2 ⟨rfl, hb2⟩
          have HB2 := hide (HB1.out.trans (hb2.mono HB1.out.size))
          clear hb2
          go_wp2_with fail
          go_ret
          exact ⟨ret_bool E.out.symm, HB2.out⟩
end Go.Proofs.YtnefgafmnpblpaaGreat
