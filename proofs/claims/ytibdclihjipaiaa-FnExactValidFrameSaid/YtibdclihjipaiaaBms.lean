/- Rows of beams: elements with slices of their own; whether a row is valid, on both sides (printed by genbms.py). -/
import Derived.Test.YtibdclihjipaiaaBeam2
import Derived.Outline
namespace Go.Proofs.Ytibdclihjipaiaa
open Go.RowKit

theorem specl21LoadAt (bl bo b o : Nat) (span a t : Int) (w : World) (g1 : w.cell? ⟨bl, bo + 1, none⟩ = some (.int .i64 span)) (c0 : w.cell? ⟨b, o, none⟩ = some (.int .i64 a)) (c1 : w.cell? ⟨b, o + 1, none⟩ = some (.int .i64 t)) :
    Calls Try.prog 77 #[.pointer (some ⟨bl, bo, none⟩), .pointer (some ⟨b, o, none⟩)] w fun e w' => e = .returned (.bool (ldOk span a t)) ∧ ∃ n, w.drewN n = w' := by
  have e : Hid (ldOk span a t = (inB a 0 span && inB t 1 200000)) := hide rfl
  cases h1 : inB a 0 span
  · go_enter Try.func77, Try.ntmps77
    go_wp2_with fail
    go_quiet ((go_at_call 67; exact Calls.quiet_of_same ((specl00In_is _ _ _ _ (by assumption) _).mono fun _ _ hh => ⟨hh.1, hh.2.symm⟩)))
    go_wp2
    go_ret
    exact ⟨ret_bool (by rw [e.out, h1]; rfl), _, rfl⟩
  · cases h2 : inB t 1 200000
    all_goals
      go_enter Try.func77, Try.ntmps77
      go_wp2_with fail
      go_quiet ((go_at_call 67; exact Calls.quiet_of_same ((specl00In_is _ _ _ _ (by assumption) _).mono fun _ _ hh => ⟨hh.1, hh.2.symm⟩)))
      go_wp2
      go_ret
      exact ⟨ret_bool (by rw [e.out, h1, h2]; rfl), _, rfl⟩
set_option maxRecDepth 100000 in
theorem specl21OkAt (nm : ByteArray) (span wd dp wood : Int) (A : Option Addr) (c : Nat) (ls : List LoadR) (bl bo : Nat) (w : World) (h : SlAt encLoad 2 w A ls) (hn : ls.length ≤ 1048576) (hs : nm.size ≤ maxLen)
    (g0 : w.cell? ⟨bl, bo, none⟩ = some (.string nm)) (g1 : w.cell? ⟨bl, bo + 1, none⟩ = some (.int .i64 span)) (g2 : w.cell? ⟨bl, bo + 2, none⟩ = some (.int .i64 wd)) (g3 : w.cell? ⟨bl, bo + 3, none⟩ = some (.int .i64 dp)) (g4 : w.cell? ⟨bl, bo + 4, none⟩ = some (.int .i64 wood)) (g5 : w.cell? ⟨bl, bo + 5, none⟩ = some (.slice A ls.length c)) :
    Calls Try.prog 61 #[.pointer (some ⟨bl, bo, none⟩)] w fun e w' => e = .returned (.bool (vBeam nm span wd dp wood ls)) ∧ Below w.heap.size w w' := by
  have hbl : bl < w.heap.size := World.block_lt_of_cell? w _ g0
  have HX := hide h
  clear h
  cases h0 : nameB nm.data.toList
  · have e : Hid (vBeam nm span wd dp wood ls = false) := vBeam_badB (by unfold bmB; simp [h0])
    go_enter Try.func61, Try.ntmps61
    go_wp2_with (first
      | (go_at_call 67; refine (specl00In_any _ _ _ _).mono ?_; rintro e w2 ⟨rfl, rfl⟩)
      | (go_at_call 98; refine (l01Name_any _ _ hs).mono ?_; rintro e w2 ⟨rfl, rfl⟩))
    go_ret
    exact ⟨ret_bool e.out.symm, Below.refl _ _⟩
  · cases h1 : inB span 1 6000
    · have e : Hid (vBeam nm span wd dp wood ls = false) := vBeam_badB (by unfold bmB; simp [h1])
      go_enter Try.func61, Try.ntmps61
      go_wp2_with (first
        | (go_at_call 67; refine (specl00In_any _ _ _ _).mono ?_; rintro e w2 ⟨rfl, rfl⟩)
        | (go_at_call 98; refine (l01Name_any _ _ hs).mono ?_; rintro e w2 ⟨rfl, rfl⟩))
      go_ret
      exact ⟨ret_bool e.out.symm, Below.refl _ _⟩
    · cases h2 : inB wd 20 1000
      · have e : Hid (vBeam nm span wd dp wood ls = false) := vBeam_badB (by unfold bmB; simp [h2])
        go_enter Try.func61, Try.ntmps61
        go_wp2_with (first
          | (go_at_call 67; refine (specl00In_any _ _ _ _).mono ?_; rintro e w2 ⟨rfl, rfl⟩)
          | (go_at_call 98; refine (l01Name_any _ _ hs).mono ?_; rintro e w2 ⟨rfl, rfl⟩))
        go_ret
        exact ⟨ret_bool e.out.symm, Below.refl _ _⟩
      · cases h3 : inB dp 20 1000
        · have e : Hid (vBeam nm span wd dp wood ls = false) := vBeam_badB (by unfold bmB; simp [h3])
          go_enter Try.func61, Try.ntmps61
          go_wp2_with (first
            | (go_at_call 67; refine (specl00In_any _ _ _ _).mono ?_; rintro e w2 ⟨rfl, rfl⟩)
            | (go_at_call 98; refine (l01Name_any _ _ hs).mono ?_; rintro e w2 ⟨rfl, rfl⟩))
          go_ret
          exact ⟨ret_bool e.out.symm, Below.refl _ _⟩
        · cases h4 : inB wood 1000 20000
          · have e : Hid (vBeam nm span wd dp wood ls = false) := vBeam_badB (by unfold bmB; simp [h4])
            go_enter Try.func61, Try.ntmps61
            go_wp2_with (first
              | (go_at_call 67; refine (specl00In_any _ _ _ _).mono ?_; rintro e w2 ⟨rfl, rfl⟩)
              | (go_at_call 98; refine (l01Name_any _ _ hs).mono ?_; rintro e w2 ⟨rfl, rfl⟩))
            go_ret
            exact ⟨ret_bool e.out.symm, Below.refl _ _⟩
          · have HB := hide (show bmB nm span wd dp wood = true by unfold bmB; simp [h0, h1, h2, h3, h4])
            go_enter Try.func61, Try.ntmps61
            go_wp2_with (first
              | (go_at_call 67; refine (specl00In_any _ _ _ _).mono ?_; rintro e w2 ⟨rfl, rfl⟩)
              | (go_at_call 98; refine (l01Name_any _ _ hs).mono ?_; rintro e w2 ⟨rfl, rfl⟩))
            clear h0 h1 h2 h3 h4
            go_loopw [3] (fun v wr => ∃ k : Nat, v = .int .i64 k ∧ k ≤ ls.length ∧ Below w.heap.size w wr ∧ Hid (∀ j, j < k → ¬ badL span ls j)) (fun v _ => ls.length - (intOf v).toNat)
            case atStart => exact ⟨0, rfl, by omega, Below.refl _ _, hide fun j hj => by omega⟩
            case round =>
              obtain ⟨k, rfl, hk, hb, hj⟩ := hrel
              have q0 := (hb.cell (p := ⟨bl, bo, none⟩) hbl).trans g0
              have q1 := (hb.cell (p := ⟨bl, bo + 1, none⟩) hbl).trans g1
              have q5 := (hb.cell (p := ⟨bl, bo + 5, none⟩) hbl).trans g5
              have hS0 := HX.out.below hb
              have hz := hb.size
              have hbl2 : bl < wr.heap.size := by omega
              have HBW := hide hb
              clear hb
              by_cases hlt : k < ls.length
              · obtain ⟨b, off, rfl, hbl, hc⟩ := hS0 k hlt
                have hc0 := hc 0 _ rfl
                have hc1 := hc 1 _ rfl
                simp only [Nat.add_zero] at hc0
                have hP : ∀ h : 0 < k, wr.cell? ⟨b, off + (k - 1) * 2, none⟩ = some (.int .i64 (ls[k - 1]'(by omega)).at_) := fun h => by
                  obtain ⟨b2, off2, e2, _, hc2⟩ := hS0 (k - 1) (by omega)
                  injection e2 with e2
                  injection e2 with e3 e4
                  subst e3; subst e4
                  simpa using hc2 0 _ rfl
                have HP := hide hP
                clear hc hP hS0 g0 g1 g2 g3 g4 g5
                generalize hx : ls[k] = x at *
                obtain ⟨x0, x1⟩ := x
                simp only at hc0 hc1
                have Hx := hide hx
                clear hx
                cases hv : ldOk span x0 x1
                · have e : Hid (vBeam nm span wd dp wood ls = false) := vBeam_badL k (badL_v hlt Hx.out hv)
                  go_wp2_with fail
                  refine wp_region_kept (by kernel_rfl) (by kernel_rfl) ?_
                  intro gc gf gz
                  repeat (go_big_quiet_step ((go_at_call 77; exact Calls.kept_drew (specl21LoadAt bl bo b (off + k * 2) span x0 x1 _ (by go_simp) (by go_simp) (by go_simp)))))
                  refine wpQuiet_nil ?_
                  intro w1 hw'
                  obtain ⟨⟨_, hb1⟩, rfl⟩ := hw'
                  clear gc gf gz
                  try dsimp only
                  have fs1 := hb1.size
                  try simp at fs1 hb1
                  go_wp2_with fail
                  go_ret
                  exact ⟨ret_bool e.out.symm, HBW.out.trans (hb1.mono hz)⟩
                · by_cases h0 : k = 0
                  · have hj2 := badL_step hj (badL_not hlt Hx.out hv (fun h => by omega))
                    have d0 : decide (0 < k) = false := by simp; omega
                    clear h0
                    go_wp2_with fail
                    refine wp_region_kept (by kernel_rfl) (by kernel_rfl) ?_
                    intro gc gf gz
                    repeat (go_big_quiet_step ((go_at_call 77; exact Calls.kept_drew (specl21LoadAt bl bo b (off + k * 2) span x0 x1 _ (by go_simp) (by go_simp) (by go_simp)))))
                    refine wpQuiet_nil ?_
                    intro w1 hw'
                    obtain ⟨⟨_, hb1⟩, rfl⟩ := hw'
                    clear gc gf gz
                    try dsimp only
                    have fs1 := hb1.size
                    try simp at fs1 hb1
                    go_wp2_with fail
                    go_roundw
                    case rel => exact ⟨k + 1, by go_num, by omega, HBW.out.trans (hb1.mono hz), hj2⟩
                    case measure => simp [intOf]; omega
                  · have h1 : 0 < k := by omega
                    have d0 : decide (0 < k) = true := by simp; omega
                    have hp0 := HP.out h1
                    generalize hp : (ls[k - 1]'(by omega)).at_ = p at hp0
                    have Hp := hide hp
                    clear hp h0
                    by_cases hc : x0 < p
                    · have e : Hid (vBeam nm span wd dp wood ls = false) := vBeam_badL k (badL_n hlt h1 Hx.out (by rw [Hp.out]; exact hc))
                      have t1 : decide (x0 < p) = true := by simpa using hc
                      go_wp2_with fail
                      refine wp_region_kept (by kernel_rfl) (by kernel_rfl) ?_
                      intro gc gf gz
                      repeat (go_big_quiet_step ((go_at_call 77; exact Calls.kept_drew (specl21LoadAt bl bo b (off + k * 2) span x0 x1 _ (by go_simp) (by go_simp) (by go_simp)))))
                      refine wpQuiet_nil ?_
                      intro w1 hw'
                      obtain ⟨⟨_, hb1⟩, rfl⟩ := hw'
                      clear gc gf gz
                      try dsimp only
                      have fs1 := hb1.size
                      try simp at fs1 hb1
                      go_wp2_with fail
                      go_ret
                      exact ⟨ret_bool e.out.symm, HBW.out.trans (hb1.mono hz)⟩
                    · have hj2 := badL_step hj (badL_not hlt Hx.out hv (fun h => by rw [Hp.out]; exact hc))
                      have t1 : decide (x0 < p) = false := by simpa using hc
                      go_wp2_with fail
                      refine wp_region_kept (by kernel_rfl) (by kernel_rfl) ?_
                      intro gc gf gz
                      repeat (go_big_quiet_step ((go_at_call 77; exact Calls.kept_drew (specl21LoadAt bl bo b (off + k * 2) span x0 x1 _ (by go_simp) (by go_simp) (by go_simp)))))
                      refine wpQuiet_nil ?_
                      intro w1 hw'
                      obtain ⟨⟨_, hb1⟩, rfl⟩ := hw'
                      clear gc gf gz
                      try dsimp only
                      have fs1 := hb1.size
                      try simp at fs1 hb1
                      go_wp2_with fail
                      go_roundw
                      case rel => exact ⟨k + 1, by go_num, by omega, HBW.out.trans (hb1.mono hz), hj2⟩
                      case measure => simp [intOf]; omega
              · have e : Hid (vBeam nm span wd dp wood ls = decide ((ls.length : Int) ≤ 8)) := vBeam_fin HB.out fun j h => hj.out j (by omega)
                clear hS0 hj
                go_wp2_with fail
                go_ret
                exact ⟨ret_bool e.out.symm, HBW.out⟩

structure BeamV where
  nm : ByteArray
  span : Int
  wd : Int
  dp : Int
  wood : Int
  A : Option Addr
  c : Nat
  ls : List LoadR
def encBV (x : BeamV) : List Value := [.string x.nm, .int .i64 x.span, .int .i64 x.wd, .int .i64 x.dp, .int .i64 x.wood, .slice x.A x.ls.length x.c]
/-- All that a beam says, without where its loads lie. -/
def BeamV.core (x : BeamV) : ByteArray × Int × Int × Int × Int × List LoadR := (x.nm, x.span, x.wd, x.dp, x.wood, x.ls)
noncomputable abbrev vBV (x : BeamV) : Bool := vBeam x.nm x.span x.wd x.dp x.wood x.ls
def InB (w : World) (xs : List BeamV) : Prop := ∀ x ∈ xs, SlAt encLoad 2 w x.A x.ls
theorem InB.below {w w' : World} {xs : List BeamV} (h : InB w xs) (hb : Below w.heap.size w w') : InB w' xs := fun x hx => (h x hx).below hb
theorem badAt_core {xs ys : List BeamV} (h : xs.map BeamV.core = ys.map BeamV.core) (k : Nat) (hb : badAt vBV BeamV.nm xs k) : badAt vBV BeamV.nm ys k := by
  have hl : xs.length = ys.length := by simpa using congrArg List.length h
  have hc : ∀ (j : Nat) (h1 : j < xs.length) (h2 : j < ys.length), xs[j].core = ys[j].core := fun j h1 h2 => by
    have := congrArg (fun l => l[j]?) h
    simpa [h1, h2] using this
  have hv : ∀ x y : BeamV, x.core = y.core → vBV x = vBV y ∧ x.nm = y.nm := fun x y e => by
    obtain ⟨x0, x1, x2, x3, x4, x5, x6, x7⟩ := x
    obtain ⟨y0, y1, y2, y3, y4, y5, y6, y7⟩ := y
    simp only [BeamV.core, Prod.mk.injEq] at e
    obtain ⟨rfl, rfl, rfl, rfl, rfl, rfl⟩ := e
    exact ⟨rfl, rfl⟩
  obtain ⟨hk, a | ⟨h0, a⟩⟩ := hb
  · exact ⟨by omega, .inl ((hv _ _ (hc k hk (by omega))).1 ▸ a)⟩
  · refine ⟨by omega, .inr ⟨h0, ?_⟩⟩
    rw [← (hv _ _ (hc k hk (by omega))).2, ← (hv _ _ (hc (k - 1) (by omega) (by omega))).2]
    exact a
theorem rowsB_core {xs ys : List BeamV} (h : xs.map BeamV.core = ys.map BeamV.core) : rowsB vBV BeamV.nm 24 xs = rowsB vBV BeamV.nm 24 ys := by
  have hl : xs.length = ys.length := by simpa using congrArg List.length h
  unfold rowsB
  congr 1
  exact propext ⟨fun a => ⟨fun k hb => a.1 k (badAt_core h.symm k hb), hl ▸ a.2⟩, fun a => ⟨fun k hb => a.1 k (badAt_core h k hb), hl ▸ a.2⟩⟩

set_option maxRecDepth 100000 in
theorem implValidFrame (A : Option Addr) (c : Nat) (xs : List BeamV) (w : World) (h : SlAt encBV 6 w A xs) (hi : InB w xs) (hn : xs.length ≤ 1048576) (hs : ∀ x ∈ xs, x.nm.size ≤ maxLen ∧ x.ls.length ≤ 1048576) :
    Calls Try.prog 23 #[.slice A xs.length c] w fun e w' => e = .returned (.bool (rowsB vBV BeamV.nm 24 xs)) ∧ Below w.heap.size w w' := by
  have HX := hide h
  have HS := hide hs
  have HI := hide hi
  clear h hs hi
  go_enter Try.func23, Try.ntmps23
  go_wp2_with fail
  go_loopw [7, 3, 4] (fun v _ _ wr => ∃ k : Nat, v = .int .i64 k ∧ k ≤ xs.length ∧ Below w.heap.size w wr ∧ Hid (∀ j, j < k → ¬ badAt vBV BeamV.nm xs j)) (fun v _ _ _ => xs.length - (intOf v).toNat)
  case atStart => exact ⟨0, rfl, by omega, (by repeat (first | with_reducible exact Below.refl _ _ | with_reducible assumption | (with_reducible refine Below.drew ?_) | (with_reducible refine below_drewN ?_ _) | ((with_reducible refine Below.alloc ?_ ?_ _); rotate_left; (focus (first | omega | (simp; omega) | simp))) | ((with_reducible refine Below.setCell ?_ ?_ _); rotate_left; (focus (first | omega | (simp; omega) | simp))) | (refine Below.trans ?_ (Below.mono (by assumption) (by first | omega | (simp; omega) | simp))))), hide fun j hj => by omega⟩
  case round =>
    obtain ⟨k, rfl, hk, hb, hj⟩ := hrel
    by_cases hlt : k < xs.length
    · have hS := HX.out.below hb
      obtain ⟨b, off, rfl, hbl, hc⟩ := hS k hlt
      have hc0 := hc 0 _ rfl
      have hc1 := hc 1 _ rfl
      have hc2 := hc 2 _ rfl
      have hc3 := hc 3 _ rfl
      have hc4 := hc 4 _ rfl
      have hc5 := hc 5 _ rfl
      simp only [Nat.add_zero] at hc0
      obtain ⟨hsz, hln⟩ := HS.out xs[k] (List.getElem_mem hlt)
      have hin := (HI.out.below hb) xs[k] (List.getElem_mem hlt)
      have hP : ∀ h : 0 < k, wr.cell? ⟨b, off + (k - 1) * 6, none⟩ = some (.string (xs[k - 1]'(by omega)).nm) := fun h => by
        obtain ⟨b2, off2, e2, _, hc2⟩ := hS (k - 1) (by omega)
        injection e2 with e2
        injection e2 with e3 e4
        subst e3; subst e4
        simpa using hc2 0 _ rfl
      have HP := hide hP
      have hz := hb.size
      clear hc hS hP
      generalize hx : xs[k] = x at *
      obtain ⟨x0, x1, x2, x3, x4, x5, x6, x7⟩ := x
      simp only at hc0 hc1 hc2 hc3 hc4 hc5 hsz hln hin
      have Hx := hide hx
      have HN := hide hin
      clear hx hin
      cases hv : vBeam x0 x1 x2 x3 x4 x7
      · have e : Hid (rowsB vBV BeamV.nm 24 xs = false) := rowsB_bad k (badAt_v hlt Hx.out hv)
        go_wp2_with fail
        refine wp_region_kept (by kernel_rfl) (by kernel_rfl) ?_
        intro gc gf gz
        repeat (go_big_quiet_step ((go_at_call 62; exact Calls.kept (implValidBeam x0 x1 x2 x3 x4 x5 x6 x7 _ ((HN.out.below (by repeat (first | with_reducible exact Below.refl _ _ | with_reducible assumption | (with_reducible refine Below.drew ?_) | (with_reducible refine below_drewN ?_ _) | ((with_reducible refine Below.alloc ?_ ?_ _); rotate_left; (focus (first | omega | (simp; omega) | simp))) | ((with_reducible refine Below.setCell ?_ ?_ _); rotate_left; (focus (first | omega | (simp; omega) | simp))) | (refine Below.trans ?_ (Below.mono (by assumption) (by first | omega | (simp; omega) | simp)))))).below (Kept.h _)) hln hsz))))
        refine wpQuiet_nil ?_
        intro w1 hw'
        obtain ⟨⟨_, hb1⟩, rfl⟩ := hw'
        clear gc gf gz
        try dsimp only
        have fs1 := hb1.size
        try simp at fs1 hb1
        go_wp2_with fail
        go_ret
        exact ⟨ret_bool e.out.symm, (by repeat (first | with_reducible exact Below.refl _ _ | with_reducible assumption | (with_reducible refine Below.drew ?_) | (with_reducible refine below_drewN ?_ _) | ((with_reducible refine Below.alloc ?_ ?_ _); rotate_left; (focus (first | omega | (simp; omega) | simp))) | ((with_reducible refine Below.setCell ?_ ?_ _); rotate_left; (focus (first | omega | (simp; omega) | simp))) | (refine Below.trans ?_ (Below.mono (by assumption) (by first | omega | (simp; omega) | simp)))))⟩
      · by_cases h0 : k = 0
        · have hj2 := bad_step hj (badAt_not (p := ⟨x0, x1, x2, x3, x4, x5, x6, x7⟩) hlt Hx.out (fun h => by omega) hv (fun h => by omega))
          have d0 : decide (0 < k) = false := by simp; omega
          clear h0
          go_wp2_with fail
          refine wp_region_kept (by kernel_rfl) (by kernel_rfl) ?_
          intro gc gf gz
          repeat (go_big_quiet_step ((go_at_call 62; exact Calls.kept (implValidBeam x0 x1 x2 x3 x4 x5 x6 x7 _ ((HN.out.below (by repeat (first | with_reducible exact Below.refl _ _ | with_reducible assumption | (with_reducible refine Below.drew ?_) | (with_reducible refine below_drewN ?_ _) | ((with_reducible refine Below.alloc ?_ ?_ _); rotate_left; (focus (first | omega | (simp; omega) | simp))) | ((with_reducible refine Below.setCell ?_ ?_ _); rotate_left; (focus (first | omega | (simp; omega) | simp))) | (refine Below.trans ?_ (Below.mono (by assumption) (by first | omega | (simp; omega) | simp)))))).below (Kept.h _)) hln hsz))))
          refine wpQuiet_nil ?_
          intro w1 hw'
          obtain ⟨⟨_, hb1⟩, rfl⟩ := hw'
          clear gc gf gz
          try dsimp only
          have fs1 := hb1.size
          try simp at fs1 hb1
          go_wp2_with fail
          go_roundw
          case rel => exact ⟨k + 1, by go_num, by omega, (by repeat (first | with_reducible exact Below.refl _ _ | with_reducible assumption | (with_reducible refine Below.drew ?_) | (with_reducible refine below_drewN ?_ _) | ((with_reducible refine Below.alloc ?_ ?_ _); rotate_left; (focus (first | omega | (simp; omega) | simp))) | ((with_reducible refine Below.setCell ?_ ?_ _); rotate_left; (focus (first | omega | (simp; omega) | simp))) | (refine Below.trans ?_ (Below.mono (by assumption) (by first | omega | (simp; omega) | simp))))), hj2⟩
          case measure => simp [intOf]; omega
        · have h1 : 0 < k := by omega
          have d0 : decide (0 < k) = true := by simp; omega
          have hp0 := HP.out h1
          generalize hp : (xs[k - 1]'(by omega)).nm = p at hp0
          have Hp := hide hp
          clear hp h0
          cases hc : sle x0 p
          · have hj2 := bad_step hj (badAt_not (p := xs[k - 1]'(by omega)) hlt Hx.out (fun h => rfl) hv (fun h => by rw [Hp.out]; exact hc))
            have t1 : (Op.bytesLess x0.toList p.toList || x0.toList == p.toList) = false := hc
            have t2 : (!Op.bytesLess p.toList x0.toList) = false := by rw [bytesLess_total]; exact hc
            have T := hide hc
            clear hc
            go_wp2_with fail
            refine wp_region_kept (by kernel_rfl) (by kernel_rfl) ?_
            intro gc gf gz
            repeat (go_big_quiet_step ((go_at_call 62; exact Calls.kept (implValidBeam x0 x1 x2 x3 x4 x5 x6 x7 _ ((HN.out.below (by repeat (first | with_reducible exact Below.refl _ _ | with_reducible assumption | (with_reducible refine Below.drew ?_) | (with_reducible refine below_drewN ?_ _) | ((with_reducible refine Below.alloc ?_ ?_ _); rotate_left; (focus (first | omega | (simp; omega) | simp))) | ((with_reducible refine Below.setCell ?_ ?_ _); rotate_left; (focus (first | omega | (simp; omega) | simp))) | (refine Below.trans ?_ (Below.mono (by assumption) (by first | omega | (simp; omega) | simp)))))).below (Kept.h _)) hln hsz))))
            refine wpQuiet_nil ?_
            intro w1 hw'
            obtain ⟨⟨_, hb1⟩, rfl⟩ := hw'
            clear gc gf gz
            try dsimp only
            have fs1 := hb1.size
            try simp at fs1 hb1
            go_wp2_with fail
            go_roundw
            case rel => exact ⟨k + 1, by go_num, by omega, (by repeat (first | with_reducible exact Below.refl _ _ | with_reducible assumption | (with_reducible refine Below.drew ?_) | (with_reducible refine below_drewN ?_ _) | ((with_reducible refine Below.alloc ?_ ?_ _); rotate_left; (focus (first | omega | (simp; omega) | simp))) | ((with_reducible refine Below.setCell ?_ ?_ _); rotate_left; (focus (first | omega | (simp; omega) | simp))) | (refine Below.trans ?_ (Below.mono (by assumption) (by first | omega | (simp; omega) | simp))))), hj2⟩
            case measure => simp [intOf]; omega
          · have e : Hid (rowsB vBV BeamV.nm 24 xs = false) := rowsB_bad k (badAt_n (p := xs[k - 1]'(by omega)) hlt h1 Hx.out rfl (by rw [Hp.out]; exact hc))
            have t1 : (Op.bytesLess x0.toList p.toList || x0.toList == p.toList) = true := hc
            have t2 : (!Op.bytesLess p.toList x0.toList) = true := by rw [bytesLess_total]; exact hc
            have T := hide hc
            clear hc
            go_wp2_with fail
            refine wp_region_kept (by kernel_rfl) (by kernel_rfl) ?_
            intro gc gf gz
            repeat (go_big_quiet_step ((go_at_call 62; exact Calls.kept (implValidBeam x0 x1 x2 x3 x4 x5 x6 x7 _ ((HN.out.below (by repeat (first | with_reducible exact Below.refl _ _ | with_reducible assumption | (with_reducible refine Below.drew ?_) | (with_reducible refine below_drewN ?_ _) | ((with_reducible refine Below.alloc ?_ ?_ _); rotate_left; (focus (first | omega | (simp; omega) | simp))) | ((with_reducible refine Below.setCell ?_ ?_ _); rotate_left; (focus (first | omega | (simp; omega) | simp))) | (refine Below.trans ?_ (Below.mono (by assumption) (by first | omega | (simp; omega) | simp)))))).below (Kept.h _)) hln hsz))))
            refine wpQuiet_nil ?_
            intro w1 hw'
            obtain ⟨⟨_, hb1⟩, rfl⟩ := hw'
            clear gc gf gz
            try dsimp only
            have fs1 := hb1.size
            try simp at fs1 hb1
            go_wp2_with fail
            go_ret
            exact ⟨ret_bool e.out.symm, (by repeat (first | with_reducible exact Below.refl _ _ | with_reducible assumption | (with_reducible refine Below.drew ?_) | (with_reducible refine below_drewN ?_ _) | ((with_reducible refine Below.alloc ?_ ?_ _); rotate_left; (focus (first | omega | (simp; omega) | simp))) | ((with_reducible refine Below.setCell ?_ ?_ _); rotate_left; (focus (first | omega | (simp; omega) | simp))) | (refine Below.trans ?_ (Below.mono (by assumption) (by first | omega | (simp; omega) | simp)))))⟩
    · have e : Hid (rowsB vBV BeamV.nm 24 xs = decide ((xs.length : Int) ≤ 24)) := rowsB_fin fun j h => hj.out j (by omega)
      go_wp2_with fail
      go_ret
      exact ⟨ret_bool e.out.symm, hb⟩
set_option maxRecDepth 100000 in
theorem specValidFrame (A : Option Addr) (c : Nat) (xs : List BeamV) (w : World) (h : SlAt encBV 6 w A xs) (hi : InB w xs) (hn : xs.length ≤ 1048576) (hs : ∀ x ∈ xs, x.nm.size ≤ maxLen ∧ x.ls.length ≤ 1048576) :
    Calls Try.prog 21 #[.slice A xs.length c] w fun e w' => e = .returned (.bool (rowsB vBV BeamV.nm 24 xs)) ∧ Below w.heap.size w w' := by
  have HX := hide h
  have HS := hide hs
  have HI := hide hi
  clear h hs hi
  go_enter Try.func21, Try.ntmps21
  go_wp2_with fail
  go_loopw [3] (fun v wr => ∃ k : Nat, v = .int .i64 k ∧ k ≤ xs.length ∧ Below w.heap.size w wr ∧ Hid (∀ j, j < k → ¬ badAt vBV BeamV.nm xs j)) (fun v _ => xs.length - (intOf v).toNat)
  case atStart => exact ⟨0, rfl, by omega, (by repeat (first | with_reducible exact Below.refl _ _ | with_reducible assumption | (with_reducible refine Below.drew ?_) | (with_reducible refine below_drewN ?_ _) | ((with_reducible refine Below.alloc ?_ ?_ _); rotate_left; (focus (first | omega | (simp; omega) | simp))) | ((with_reducible refine Below.setCell ?_ ?_ _); rotate_left; (focus (first | omega | (simp; omega) | simp))) | (refine Below.trans ?_ (Below.mono (by assumption) (by first | omega | (simp; omega) | simp))))), hide fun j hj => by omega⟩
  case round =>
    obtain ⟨k, rfl, hk, hb, hj⟩ := hrel
    by_cases hlt : k < xs.length
    · have hS := HX.out.below hb
      obtain ⟨b, off, rfl, hbl, hc⟩ := hS k hlt
      have hc0 := hc 0 _ rfl
      have hc1 := hc 1 _ rfl
      have hc2 := hc 2 _ rfl
      have hc3 := hc 3 _ rfl
      have hc4 := hc 4 _ rfl
      have hc5 := hc 5 _ rfl
      simp only [Nat.add_zero] at hc0
      obtain ⟨hsz, hln⟩ := HS.out xs[k] (List.getElem_mem hlt)
      have hin := (HI.out.below hb) xs[k] (List.getElem_mem hlt)
      have hP : ∀ h : 0 < k, wr.cell? ⟨b, off + (k - 1) * 6, none⟩ = some (.string (xs[k - 1]'(by omega)).nm) := fun h => by
        obtain ⟨b2, off2, e2, _, hc2⟩ := hS (k - 1) (by omega)
        injection e2 with e2
        injection e2 with e3 e4
        subst e3; subst e4
        simpa using hc2 0 _ rfl
      have HP := hide hP
      have hz := hb.size
      clear hc hS hP
      generalize hx : xs[k] = x at *
      obtain ⟨x0, x1, x2, x3, x4, x5, x6, x7⟩ := x
      simp only at hc0 hc1 hc2 hc3 hc4 hc5 hsz hln hin
      have Hx := hide hx
      have HN := hide hin
      clear hx hin
      cases hv : vBeam x0 x1 x2 x3 x4 x7
      · have e : Hid (rowsB vBV BeamV.nm 24 xs = false) := rowsB_bad k (badAt_v hlt Hx.out hv)
        go_wp2_with fail
        refine wp_region_kept (by kernel_rfl) (by kernel_rfl) ?_
        intro gc gf gz
        repeat (go_big_quiet_step ((go_at_call 61; exact Calls.kept (specl21OkAt x0 x1 x2 x3 x4 x5 x6 x7 b (off + k * 6) _ (HN.out.below (Kept.h _)) hln hsz (((Kept.h _).cell (p := ⟨b, off + k * 6, none⟩) hbl).trans hc0) (((Kept.h _).cell (p := ⟨b, off + k * 6 + 1, none⟩) hbl).trans hc1) (((Kept.h _).cell (p := ⟨b, off + k * 6 + 2, none⟩) hbl).trans hc2) (((Kept.h _).cell (p := ⟨b, off + k * 6 + 3, none⟩) hbl).trans hc3) (((Kept.h _).cell (p := ⟨b, off + k * 6 + 4, none⟩) hbl).trans hc4) (((Kept.h _).cell (p := ⟨b, off + k * 6 + 5, none⟩) hbl).trans hc5)))))
        refine wpQuiet_nil ?_
        intro w1 hw'
        obtain ⟨⟨_, hb1⟩, rfl⟩ := hw'
        clear gc gf gz
        try dsimp only
        have fs1 := hb1.size
        try simp at fs1 hb1
        go_wp2_with fail
        go_ret
        exact ⟨ret_bool e.out.symm, (by repeat (first | with_reducible exact Below.refl _ _ | with_reducible assumption | (with_reducible refine Below.drew ?_) | (with_reducible refine below_drewN ?_ _) | ((with_reducible refine Below.alloc ?_ ?_ _); rotate_left; (focus (first | omega | (simp; omega) | simp))) | ((with_reducible refine Below.setCell ?_ ?_ _); rotate_left; (focus (first | omega | (simp; omega) | simp))) | (refine Below.trans ?_ (Below.mono (by assumption) (by first | omega | (simp; omega) | simp)))))⟩
      · by_cases h0 : k = 0
        · have hj2 := bad_step hj (badAt_not (p := ⟨x0, x1, x2, x3, x4, x5, x6, x7⟩) hlt Hx.out (fun h => by omega) hv (fun h => by omega))
          have d0 : decide (0 < k) = false := by simp; omega
          clear h0
          go_wp2_with fail
          refine wp_region_kept (by kernel_rfl) (by kernel_rfl) ?_
          intro gc gf gz
          repeat (go_big_quiet_step ((go_at_call 61; exact Calls.kept (specl21OkAt x0 x1 x2 x3 x4 x5 x6 x7 b (off + k * 6) _ (HN.out.below (Kept.h _)) hln hsz (((Kept.h _).cell (p := ⟨b, off + k * 6, none⟩) hbl).trans hc0) (((Kept.h _).cell (p := ⟨b, off + k * 6 + 1, none⟩) hbl).trans hc1) (((Kept.h _).cell (p := ⟨b, off + k * 6 + 2, none⟩) hbl).trans hc2) (((Kept.h _).cell (p := ⟨b, off + k * 6 + 3, none⟩) hbl).trans hc3) (((Kept.h _).cell (p := ⟨b, off + k * 6 + 4, none⟩) hbl).trans hc4) (((Kept.h _).cell (p := ⟨b, off + k * 6 + 5, none⟩) hbl).trans hc5)))))
          refine wpQuiet_nil ?_
          intro w1 hw'
          obtain ⟨⟨_, hb1⟩, rfl⟩ := hw'
          clear gc gf gz
          try dsimp only
          have fs1 := hb1.size
          try simp at fs1 hb1
          go_wp2_with fail
          go_roundw
          case rel => exact ⟨k + 1, by go_num, by omega, (by repeat (first | with_reducible exact Below.refl _ _ | with_reducible assumption | (with_reducible refine Below.drew ?_) | (with_reducible refine below_drewN ?_ _) | ((with_reducible refine Below.alloc ?_ ?_ _); rotate_left; (focus (first | omega | (simp; omega) | simp))) | ((with_reducible refine Below.setCell ?_ ?_ _); rotate_left; (focus (first | omega | (simp; omega) | simp))) | (refine Below.trans ?_ (Below.mono (by assumption) (by first | omega | (simp; omega) | simp))))), hj2⟩
          case measure => simp [intOf]; omega
        · have h1 : 0 < k := by omega
          have d0 : decide (0 < k) = true := by simp; omega
          have hp0 := HP.out h1
          generalize hp : (xs[k - 1]'(by omega)).nm = p at hp0
          have Hp := hide hp
          clear hp h0
          cases hc : sle x0 p
          · have hj2 := bad_step hj (badAt_not (p := xs[k - 1]'(by omega)) hlt Hx.out (fun h => rfl) hv (fun h => by rw [Hp.out]; exact hc))
            have t1 : (Op.bytesLess x0.toList p.toList || x0.toList == p.toList) = false := hc
            have t2 : (!Op.bytesLess p.toList x0.toList) = false := by rw [bytesLess_total]; exact hc
            have T := hide hc
            clear hc
            go_wp2_with fail
            refine wp_region_kept (by kernel_rfl) (by kernel_rfl) ?_
            intro gc gf gz
            repeat (go_big_quiet_step ((go_at_call 61; exact Calls.kept (specl21OkAt x0 x1 x2 x3 x4 x5 x6 x7 b (off + k * 6) _ (HN.out.below (Kept.h _)) hln hsz (((Kept.h _).cell (p := ⟨b, off + k * 6, none⟩) hbl).trans hc0) (((Kept.h _).cell (p := ⟨b, off + k * 6 + 1, none⟩) hbl).trans hc1) (((Kept.h _).cell (p := ⟨b, off + k * 6 + 2, none⟩) hbl).trans hc2) (((Kept.h _).cell (p := ⟨b, off + k * 6 + 3, none⟩) hbl).trans hc3) (((Kept.h _).cell (p := ⟨b, off + k * 6 + 4, none⟩) hbl).trans hc4) (((Kept.h _).cell (p := ⟨b, off + k * 6 + 5, none⟩) hbl).trans hc5)))))
            refine wpQuiet_nil ?_
            intro w1 hw'
            obtain ⟨⟨_, hb1⟩, rfl⟩ := hw'
            clear gc gf gz
            try dsimp only
            have fs1 := hb1.size
            try simp at fs1 hb1
            go_wp2_with fail
            go_roundw
            case rel => exact ⟨k + 1, by go_num, by omega, (by repeat (first | with_reducible exact Below.refl _ _ | with_reducible assumption | (with_reducible refine Below.drew ?_) | (with_reducible refine below_drewN ?_ _) | ((with_reducible refine Below.alloc ?_ ?_ _); rotate_left; (focus (first | omega | (simp; omega) | simp))) | ((with_reducible refine Below.setCell ?_ ?_ _); rotate_left; (focus (first | omega | (simp; omega) | simp))) | (refine Below.trans ?_ (Below.mono (by assumption) (by first | omega | (simp; omega) | simp))))), hj2⟩
            case measure => simp [intOf]; omega
          · have e : Hid (rowsB vBV BeamV.nm 24 xs = false) := rowsB_bad k (badAt_n (p := xs[k - 1]'(by omega)) hlt h1 Hx.out rfl (by rw [Hp.out]; exact hc))
            have t1 : (Op.bytesLess x0.toList p.toList || x0.toList == p.toList) = true := hc
            have t2 : (!Op.bytesLess p.toList x0.toList) = true := by rw [bytesLess_total]; exact hc
            have T := hide hc
            clear hc
            go_wp2_with fail
            refine wp_region_kept (by kernel_rfl) (by kernel_rfl) ?_
            intro gc gf gz
            repeat (go_big_quiet_step ((go_at_call 61; exact Calls.kept (specl21OkAt x0 x1 x2 x3 x4 x5 x6 x7 b (off + k * 6) _ (HN.out.below (Kept.h _)) hln hsz (((Kept.h _).cell (p := ⟨b, off + k * 6, none⟩) hbl).trans hc0) (((Kept.h _).cell (p := ⟨b, off + k * 6 + 1, none⟩) hbl).trans hc1) (((Kept.h _).cell (p := ⟨b, off + k * 6 + 2, none⟩) hbl).trans hc2) (((Kept.h _).cell (p := ⟨b, off + k * 6 + 3, none⟩) hbl).trans hc3) (((Kept.h _).cell (p := ⟨b, off + k * 6 + 4, none⟩) hbl).trans hc4) (((Kept.h _).cell (p := ⟨b, off + k * 6 + 5, none⟩) hbl).trans hc5)))))
            refine wpQuiet_nil ?_
            intro w1 hw'
            obtain ⟨⟨_, hb1⟩, rfl⟩ := hw'
            clear gc gf gz
            try dsimp only
            have fs1 := hb1.size
            try simp at fs1 hb1
            go_wp2_with fail
            go_ret
            exact ⟨ret_bool e.out.symm, (by repeat (first | with_reducible exact Below.refl _ _ | with_reducible assumption | (with_reducible refine Below.drew ?_) | (with_reducible refine below_drewN ?_ _) | ((with_reducible refine Below.alloc ?_ ?_ _); rotate_left; (focus (first | omega | (simp; omega) | simp))) | ((with_reducible refine Below.setCell ?_ ?_ _); rotate_left; (focus (first | omega | (simp; omega) | simp))) | (refine Below.trans ?_ (Below.mono (by assumption) (by first | omega | (simp; omega) | simp)))))⟩
    · have e : Hid (rowsB vBV BeamV.nm 24 xs = decide ((xs.length : Int) ≤ 24)) := rowsB_fin fun j h => hj.out j (by omega)
      go_wp2_with fail
      go_ret
      exact ⟨ret_bool e.out.symm, hb⟩
end Go.Proofs.Ytibdclihjipaiaa
