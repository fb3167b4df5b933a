/- Contracts: a draw of a model, a profile and a goal. -/
import Derived.Test.YtnefgafmnpblpaaGreatPnEa
import Derived.Deep.CutBlock
namespace Go.Proofs.YtnefgafmnpblpaaGreat
open Go.RowKit Pn

/-- A drawn model, profile and goal. -/
def DrawRes (B b N : Nat) (w : World) (e : Ending) (w' : World) : Prop :=
  ∃ (nm : ByteArray) (A : Option Addr) (c : Nat) (rs : List RingR) (Az : Option Addr) (cz : Nat) (Aw : Option Addr) (cw : Nat) (Ab : Option Addr) (cb : Nat) (zs : List Int) (ws : List (List Int)) (bs : List Int) (t0 t1 t2 t3 t4 tol most : Int),
    e = .returned (.tuple #[.agg #[.slice Az zs.length cz, .slice Aw ws.length cw, .slice Ab bs.length cb], .agg #[.string nm, .slice A rs.length c], .agg #[.int .i64 t0, .int .i64 t1, .int .i64 t2, .int .i64 t3, .int .i64 t4, .int .i64 tol, .int .i64 most]]) ∧ (∃ N1, MdO w' w.heap.size N1 Az cz Aw cw Ab cb zs ws bs) ∧ OwnR w' w.heap.size (.slice A rs.length c) rs ∧ MdSz zs ws bs ∧ rs.length ≤ 40 ∧ nm.size ≤ 100 ∧ Dw B b N w w'
/-- Zones as they are drawn. -/
def ZnD (zs : List Int) (n : Nat) : Prop := zs = [0, 1] ∧ 2 ≤ n ∨ zs = [0, 1, 2] ∧ 3 ≤ n
theorem ZnD.len {zs : List Int} {n : Nat} (h : ZnD zs n) : zs.length = 2 ∨ zs.length = 3 := by
  rcases h with ⟨rfl, _⟩ | ⟨rfl, _⟩
  · exact .inl rfl
  · exact .inr rfl
theorem ZnD.ok {zs : List Int} {n : Nat} (h : ZnD zs n) {m : Int} (hm : (n : Int) ≤ m) : ZonesOK zs m := by
  rcases h with ⟨rfl, h⟩ | ⟨rfl, h⟩
  · refine ⟨by simp, by simp, by simp [ig], fun k hk => ?_, fun k hk => ?_⟩
    · match k, hk with
      | 0, _ => simp [ig]
    · match k, hk with
      | 0, _ => simp [ig]; omega
      | 1, _ => simp [ig]; omega
  · refine ⟨by simp, by simp, by simp [ig], fun k hk => ?_, fun k hk => ?_⟩
    · match k, hk with
      | 0, _ => simp [ig]
      | 1, _ => simp [ig]
    · match k, hk with
      | 0, _ => simp [ig]; omega
      | 1, _ => simp [ig]; omega
      | 2, _ => simp [ig]; omega
theorem std_ok {zs : List Int} {ws : List (List Int)} {bs : List Int} {n : Nat} (hz : ZnD zs n) (hn : n ≤ 32) (hw : ws.length = 5) (h : WtOK zs.length ws) (hb : bs.length = 5) (hbb : ∀ k, k < 5 → 1 ≤ ig bs k ∧ ig bs k ≤ 1000000000) : ModelOK zs ws bs := by
  have hz1 : 0 < zs.length := by have := hz.len; omega
  have hr : ∀ k, k < 5 → (ws.getD k []).length = zs.length ∧ ∀ j, j < zs.length → 100 ≤ ig (ws.getD k []) j ∧ ig (ws.getD k []) j ≤ 1000 := fun k hk => h.row _ (wr_mem (by omega))
  exact ⟨hz.ok (by omega), hw, hb, fun k hk => (hr k hk).1, fun k hk z hz => by have := (hr k hk).2 z hz; omega, fun k hk => ⟨0, hz1, by have := (hr k hk).2 0 hz1; omega⟩, hbb⟩
theorem RingsD.take {rs : List RingR} (h : RingsD rs) (h4 : 4 < rs.length) : RingsD (rs.take 4) := by
  have hl : (rs.take 4).length = 4 := by rw [List.length_take]; omega
  refine ⟨by omega, by omega, fun k hk => ?_⟩
  rw [hl] at hk
  have e : rg (rs.take 4) k = rg rs k := by
    rw [← rg_eq (by omega : k < (rs.take 4).length), ← rg_eq (by omega : k < rs.length), List.getElem_take]
  rw [e]
  exact h.ring k (by omega)
theorem WtOK.sz {n : Nat} {zs : List Int} {ws : List (List Int)} {bs : List Int} (h : WtOK n ws) (hn : n ≤ 8) (hz : zs.length ≤ 8) (hw : ws.length = 5) (hb : bs.length = 5) : MdSz zs ws bs :=
  ⟨by omega, by omega, fun l hl => by have := (h.row l hl).1; omega, by omega⟩
theorem DG.setGz {B b N : Nat} {w0 w : World} {P M G : Nat} {nm : ByteArray} {A : Option Addr} {c : Nat} {rs : List RingR} {Az : Option Addr} {cz : Nat} {Aw : Option Addr} {cw : Nat} {Ab : Option Addr} {cb : Nat} {zs : List Int} {ws : List (List Int)} {bs : List Int} {gs : List Int} {B' : Nat} {v : Value} {xs : List Int} (h : DG B b N w0 w P M G nm A c rs Az cz Aw cw Ab cb zs ws bs gs) (ho : OwnI w B' v xs) (t0 t1 t2 t3 t4 : Int) : OwnI (((((w.setCell ⟨G, 0, none⟩ (.int .i64 t0)).setCell ⟨G, 1, none⟩ (.int .i64 t1)).setCell ⟨G, 2, none⟩ (.int .i64 t2)).setCell ⟨G, 3, none⟩ (.int .i64 t3)).setCell ⟨G, 4, none⟩ (.int .i64 t4)) B' v xs := by
  have h1 := h.setG 0 t0
  have h2 := h1.setG 1 t1
  have h3 := h2.setG 2 t2
  have h4 := h3.setG 3 t3
  exact own_cell (own_cell (own_cell (own_cell (own_cell ho h.g (by decide)) h1.g (by decide)) h2.g (by decide)) h3.g (by decide)) h4.g (by decide)
theorem DG.gcell {B b N : Nat} {w0 w : World} {P M G : Nat} {nm : ByteArray} {A : Option Addr} {c : Nat} {rs : List RingR} {Az : Option Addr} {cz : Nat} {Aw : Option Addr} {cw : Nat} {Ab : Option Addr} {cb : Nat} {zs : List Int} {ws : List (List Int)} {bs : List Int} {gs : List Int} (h : DG B b N w0 w P M G nm A c rs Az cz Aw cw Ab cb zs ws bs gs) (j : Nat) (hj : j < 7) : ∃ x, w.cell? ⟨G, j, none⟩ = some (.int .i64 x) := by
  have hg := h.g
  have hl := h.l
  refine ⟨gs[j]'(by omega), ?_⟩
  simp [World.cell?, hg, show j < gs.length by omega]
theorem DG.gfroz {B b N : Nat} {w0 w : World} {P M G : Nat} {nm : ByteArray} {A : Option Addr} {c : Nat} {rs : List RingR} {Az : Option Addr} {cz : Nat} {Aw : Option Addr} {cw : Nat} {Ab : Option Addr} {cb : Nat} {zs : List Int} {ws : List (List Int)} {bs : List Int} {gs : List Int} (h : DG B b N w0 w P M G nm A c rs Az cz Aw cw Ab cb zs ws bs gs) (j : Nat) : w.frozen? ⟨G, j, none⟩ = false := by
  have hg := h.g
  simp [World.frozen?, hg]
theorem DG.more {B b N N' : Nat} {w0 w : World} {P M G : Nat} {nm : ByteArray} {A : Option Addr} {c : Nat} {rs : List RingR} {Az : Option Addr} {cz : Nat} {Aw : Option Addr} {cw : Nat} {Ab : Option Addr} {cb : Nat} {zs : List Int} {ws : List (List Int)} {bs : List Int} {gs : List Int} (h : DG B b N w0 w P M G nm A c rs Az cz Aw cw Ab cb zs ws bs gs) (hN : N ≤ N') : DG B b N' w0 w P M G nm A c rs Az cz Aw cw Ab cb zs ws bs gs := h.go (h.m.p.t.d.more hN) (grown_refl _ _)
/-- What the results of a draw rest on. -/
structure DE (B b N : Nat) (w0 w : World) (A : Option Addr) (c : Nat) (rs : List RingR) (Az : Option Addr) (cz : Nat) (Aw : Option Addr) (cw : Nat) (Ab : Option Addr) (cb : Nat) (zs : List Int) (ws : List (List Int)) (bs : List Int) : Prop where
  d : Dw B b N w0 w
  o : OwnR w (w0.heap.size + 3) (.slice A rs.length c) rs
  m : ∃ N', MdO w (w0.heap.size + 3) N' Az cz Aw cw Ab cb zs ws bs
theorem DE.set {B b N : Nat} {w0 w : World} {A : Option Addr} {c : Nat} {rs : List RingR} {Az : Option Addr} {cz : Nat} {Aw : Option Addr} {cw : Nat} {Ab : Option Addr} {cb : Nat} {zs : List Int} {ws : List (List Int)} {bs : List Int} {q j : Nat} {v : Value} (h1 : w0.heap.size ≤ q) (h2 : q < w0.heap.size + 3) (h : DE B b N w0 w A c rs Az cz Aw cw Ab cb zs ws bs) : DE B b N w0 (w.setCell ⟨q, j, none⟩ v) A c rs Az cz Aw cw Ab cb zs ws bs := by
  obtain ⟨N1, hm⟩ := h.m
  have hg := grown_set (grown_refl w (some q)) j v
  exact ⟨h.d.set h1 j v, own_farN h.o h2 hg, ⟨N1, hm.far h2 hg⟩⟩
theorem DE.drew {B b N : Nat} {w0 w : World} {A : Option Addr} {c : Nat} {rs : List RingR} {Az : Option Addr} {cz : Nat} {Aw : Option Addr} {cw : Nat} {Ab : Option Addr} {cb : Nat} {zs : List Int} {ws : List (List Int)} {bs : List Int} (h : DE B b N w0 w A c rs Az cz Aw cw Ab cb zs ws bs) : DE B b N w0 w.drew A c rs Az cz Aw cw Ab cb zs ws bs := by
  obtain ⟨N1, hm⟩ := h.m
  have hb : Below w.heap.size w w.drew := (Below.refl _ _).drew
  exact ⟨h.d.below hb, h.o.below hb, ⟨N1, hm.below hb⟩⟩
theorem draw_end {B b N : Nat} {w0 w : World} {nm : ByteArray} {A : Option Addr} {c : Nat} {rs : List RingR} {Az : Option Addr} {cz : Nat} {Aw : Option Addr} {cw : Nat} {Ab : Option Addr} {cb : Nat} {zs : List Int} {ws : List (List Int)} {bs : List Int} {t0 t1 t2 t3 t4 tol most : Int} (hs : MdSz zs ws bs) (hr : rs.length ≤ 40) (hn : nm.size ≤ 100) (h : DE B b N w0 w A c rs Az cz Aw cw Ab cb zs ws bs) : DrawRes B b N w0 (.returned (.tuple #[.agg #[.slice Az zs.length cz, .slice Aw ws.length cw, .slice Ab bs.length cb], .agg #[.string nm, .slice A rs.length c], .agg #[.int .i64 t0, .int .i64 t1, .int .i64 t2, .int .i64 t3, .int .i64 t4, .int .i64 tol, .int .i64 most]])) w := by
  obtain ⟨N1, hm⟩ := h.m
  exact ⟨nm, A, c, rs, Az, cz, Aw, cw, Ab, cb, zs, ws, bs, t0, t1, t2, t3, t4, tol, most, rfl, ⟨N1, hm.mono (by omega)⟩, h.o.mono (by omega), hs, hr, hn, h.d⟩
set_option maxRecDepth 100000 in
set_option maxHeartbeats 2000000 in
theorem l10Draw_is (B b N : Nat) (w : World) (h : Src w B b N) (hN : N ≤ 10000) :
    Calls Tryz.prog 39 #[.pointer (some ⟨b, 0, none⟩)] w (DrawRes B b (N + 300) w) := by
  have hbl := h.lt
  obtain ⟨w1, hw1⟩ : ∃ w1, w1 = ((w.alloc (.cells #[.slice none 0 0, .slice none 0 0, .slice none 0 0] 27)).alloc (.cells (PCELLS ⟨#[]⟩ none 0 0) 30)).alloc (.cells #[.int .i64 0, .int .i64 0, .int .i64 0, .int .i64 0, .int .i64 0, .int .i64 0, .int .i64 0] 34) := ⟨_, rfl⟩
  have HD1 := hide (show D3 B b N w w1 from by
    have a1 : Below (w.heap.size + 1) (w.alloc (.cells #[.slice none 0 0, .slice none 0 0, .slice none 0 0] 27)) w1 := by rw [hw1]; exact ((Below.refl _ _).alloc (by simp) _).alloc (by simp) _
    have a2 : Below (w.heap.size + 2) ((w.alloc (.cells #[.slice none 0 0, .slice none 0 0, .slice none 0 0] 27)).alloc (.cells (PCELLS ⟨#[]⟩ none 0 0) 30)) w1 := by rw [hw1]; exact (Below.refl _ _).alloc (by simp) _
    refine ⟨(Dw.start h).below ?_, (a1.block _ (by omega)).trans (heap_alloc_new w _), (a2.block _ (by omega)).trans ?_, ?_⟩
    · rw [hw1]; exact (by repeat (first | with_reducible exact Below.refl _ _ | with_reducible assumption | (with_reducible refine Below.drew ?_) | (with_reducible refine below_drewN ?_ _) | ((with_reducible refine Below.alloc ?_ ?_ _); rotate_left; (focus (first | omega | (simp; omega) | simp))) | ((with_reducible refine Below.setCell ?_ ?_ _); rotate_left; (focus (first | omega | (simp; omega) | simp))) | (refine Below.trans ?_ (Below.mono (by assumption) (by first | omega | (simp; omega) | simp)))))
    · have a := heap_alloc_new (w.alloc (.cells #[.slice none 0 0, .slice none 0 0, .slice none 0 0] 27)) (.cells (PCELLS ⟨#[]⟩ none 0 0) 30)
      simpa using a
    · rw [hw1]
      have a := heap_alloc_new ((w.alloc (.cells #[.slice none 0 0, .slice none 0 0, .slice none 0 0] 27)).alloc (.cells (PCELLS ⟨#[]⟩ none 0 0) 30)) (.cells #[.int .i64 0, .int .i64 0, .int .i64 0, .int .i64 0, .int .i64 0, .int .i64 0, .int .i64 0] 34)
      simpa using a)
  have HZ1 := hide (show w.heap.size + 3 = w1.heap.size by rw [hw1]; simp)
  clear h
  go_enter Tryz.func39, Tryz.ntmps39
  go_upto_region 1 with fail
  rw [← hw1]
  clear hw1
  go_wp2_with fail
  refine (l05Draw_is B b N w1 HD1.out.d.s (by omega)).mono ?_
  rintro e w2 ⟨nm, A, c, rs, rfl, hnm, hrd, ho2, hd2⟩
  have HNM := hide hnm
  have HRD := hide hrd
  have HD2 := hide (HD1.out.go (HD1.out.d.step hd2.s hd2.bel hd2.gr) hd2.gr)
  have hal : Below w2.heap.size w2 (w2.alloc (.cells (PCELLS nm A rs.length c) 30)) := (Below.refl _ _).alloc (Nat.le_refl _) _
  have HP2 := hide (show DP B b (N + 70) w (w2.alloc (.cells (PCELLS nm A rs.length c) 30)) w2.heap.size nm A c rs from ⟨HD2.out.go (HD2.out.d.below hal) (grown_of_below hal _), heap_alloc_new w2 _, (ho2.below hal).mono (by have := HZ1.out; omega), by have := HZ1.out; have := hd2.gr.size; omega⟩)
  clear hnm hrd ho2 hd2 HD1 HD2 hal HZ1
  go_upto_region 2 with fail
  obtain ⟨P, hP⟩ : ∃ P, P = w2.heap.size := ⟨_, rfl⟩
  rw [← hP] at HP2 ⊢
  clear hP
  generalize w2.alloc (.cells (PCELLS nm A rs.length c) 30) = w3 at *
  have rl2 := HRD.out.len1
  have rl9 := HRD.out.len9
  have p1 : w3.cell? ⟨P, 1, none⟩ = some (.slice A rs.length c) := by have := HP2.out.p; simp [World.cell?, this]
  have p1f : w3.frozen? ⟨P, 1, none⟩ = false := by have := HP2.out.p; simp [World.frozen?, this]
  go_upto_if 20 with fail
  go_cut [] (fun wx => ∃ rs2 : List RingR, 2 ≤ rs2.length ∧ rs2.length ≤ 4 ∧ Hid (RingsD rs2) ∧ Hid (DP B b (N + 70) w wx P nm A c rs2))
  case first =>
    by_cases h4 : 4 < rs.length
    · have hcap := ownR_cap HP2.out.o (by omega)
      have hl4 : (rs.take 4).length = 4 := by rw [List.length_take]; omega
      have HSH := hide (show OwnR w3 (w.heap.size + 3) (.slice A (rs.take 4).length c) (rs.take 4) from own_short (enc := encRing) (sz := 3) (xs := rs.take 4) (ys := rs.drop 4) (fun _ => rfl) (by rw [List.take_append_drop]; exact HP2.out.o) (by rw [List.take_append_drop]))
      have HPT := hide (HP2.out.put HSH.out)
      rw [hl4] at HPT
      obtain ⟨g, rfl, _, _⟩ := own_addr HP2.out.o (by omega)
      clear HSH
      go_wp2_with fail
      go_meet
      exact ⟨rs.take 4, by omega, by omega, hide (HRD.out.take h4), HPT⟩
    · go_wp2_with fail
      go_meet
      exact ⟨rs, by omega, by omega, HRD, HP2⟩
  case rest =>
    clear p1 p1f HP2 HRD rl2 rl9 rs
    obtain ⟨rs, rl2, rl4, HRD, HP2⟩ := hcut
    have hbz : w.heap.size + 3 ≤ wc.heap.size := by have := heap_lt HP2.out.p; have := HP2.out.hP; omega
    have hal : Below wc.heap.size wc (wc.alloc (.cells #[.int .i64 0, .int .i64 1] 2)) := (Below.refl _ _).alloc (Nat.le_refl _) _
    have HP3 := hide (HP2.out.go (HP2.out.t.d.below hal) (grown_of_below hal _))
    have HZ3 := hide (show OwnI (wc.alloc (.cells #[.int .i64 0, .int .i64 1] 2)) (w.heap.size + 3) (.slice (some ⟨wc.heap.size, 0, none⟩) ([0, 1] : List Int).length 2) [0, 1] from own_lits (enc := encI) (T := 2) wc [0, 1] _ hbz (fun _ => rfl) rfl (by simp [maxLen]))
    clear hbz hal HP2
    go_upto_region 5 with fail
    generalize wc.alloc (.cells #[.int .i64 0, .int .i64 1] 2) = w4 at *
    generalize wc.heap.size = gz at *
    go_cut [33] (fun s33 wx => ∃ d : Bool, s33 = .bool d ∧ (d = true → 3 ≤ rs.length) ∧ Hid (OwnI wx (w.heap.size + 3) (.slice (some ⟨gz, 0, none⟩) 2 2) [0, 1]) ∧ Hid (DP B b (N + 72) w wx P nm A c rs))
    case first =>
      have p1 : w4.cell? ⟨P, 1, none⟩ = some (.slice A rs.length c) := by have := HP3.out.p; simp [World.cell?, this]
      by_cases h2 : 2 < rs.length
      · have h2i : (2 : Int) < rs.length := by omega
        go_wp2_with fail
        refine (srcOne B b (N + 70) 3 w4 HP3.out.t.d.s (by omega) (by omega)).mono ?_
        rintro e w5 ⟨dd, rfl, hs5, hb5, hg5⟩
        have HP5 := hide (HP3.out.go (HP3.out.t.d.step hs5 hb5 hg5) hg5)
        have HZ5 := hide (own_farN HZ3.out (show b < w.heap.size + 3 by omega) hg5)
        clear hs5 hb5 hg5 HP3 HZ3
        go_wp2_with fail
        go_meet
        exact ⟨dd, rfl, fun _ => by omega, HZ5, HP5⟩
      · have h2' : decide ((2 : Int) < rs.length) = false := by simp; omega
        go_wp2_with fail
        go_meet
        exact ⟨false, rfl, fun e => (by simp at e), HZ3, hide (HP3.out.go (HP3.out.t.d.more (by omega)) (grown_refl _ _))⟩
    case rest =>
      clear HP3 HZ3
      obtain ⟨dd, rfl, hdd, HZ5, HP5⟩ := hcut
      have HDD := hide hdd
      clear hdd
      obtain ⟨w5, hw5⟩ : ∃ w5, w5 = wc := ⟨_, rfl⟩
      rw [← hw5]
      rw [← hw5] at HZ5 HP5
      clear hw5
      go_upto_if 33 with fail
      go_cut [6] (fun z wx => ∃ (zs : List Int) (gz cz : Nat), ZnD zs rs.length ∧ z = .slice (some ⟨gz, 0, none⟩) zs.length cz ∧ Hid (OwnI wx (w.heap.size + 3) (.slice (some ⟨gz, 0, none⟩) zs.length cz) zs) ∧ Hid (DP B b (N + 72) w wx P nm A c rs))
      case first =>
        cases dd
        · go_wp2_with fail
          go_meet
          exact ⟨[0, 1], gz, 2, .inl ⟨rfl, by omega⟩, rfl, HZ5, HP5⟩
        · have hal : Below w5.heap.size w5 (w5.alloc (.cells #[.int .i64 0, .int .i64 1, .int .i64 2] 2)) := (Below.refl _ _).alloc (Nat.le_refl _) _
          have HP6 := hide (HP5.out.go (HP5.out.t.d.below hal) (grown_of_below hal _))
          have HZ6 := hide (show OwnI (w5.alloc (.cells #[.int .i64 0, .int .i64 1, .int .i64 2] 2)) (w.heap.size + 3) (.slice (some ⟨w5.heap.size, 0, none⟩) ([0, 1, 2] : List Int).length 3) [0, 1, 2] from own_lits (enc := encI) (T := 2) w5 [0, 1, 2] _ (by have := heap_lt HP5.out.p; have := HP5.out.hP; omega) (fun _ => rfl) rfl (by simp [maxLen]))
          have h3 := HDD.out rfl
          clear hal HP5 HZ5
          go_wp2_with fail
          go_meet
          exact ⟨[0, 1, 2], _, 3, .inr ⟨rfl, h3⟩, rfl, HZ6, HP6⟩
      case rest =>
        clear HP5 HZ5 HDD gz
        obtain ⟨zs, gz, cz, hzn, rfl, HZ, HP⟩ := hcut
        have hbz : w.heap.size + 3 ≤ wc.heap.size := by have := heap_lt HP.out.p; have := HP.out.hP; omega
        obtain ⟨bs, hbs⟩ : ∃ bs : List Int, bs = [1000, 1000, 1000, 1000, 1000] := ⟨_, rfl⟩
        have HBL := hide (show bs.length = 5 from by rw [hbs]; rfl)
        have HBB := hide (show ∀ k, k < 5 → 1 ≤ ig bs k ∧ ig bs k ≤ 1000000000 from fun k hk => by
          rw [hbs]
          match k, hk with
          | 0, _ => simp [ig]
          | 1, _ => simp [ig]
          | 2, _ => simp [ig]
          | 3, _ => simp [ig]
          | 4, _ => simp [ig])
        have HST := hide (specl08Standard (w.heap.size + 3) (some ⟨gz, 0, none⟩) cz zs zs.length wc HZ.out rfl hzn.len)
        rw [← hbs] at HST
        clear hbs
        have HZN := hide hzn
        clear hzn
        go_wp2_with fail
        refine HST.out.mono ?_
        rintro e w6 ⟨ws, hw5, hwt, Az, ez, Aw, ew, Ab, eb, N1, rfl, hmo, _, hb6⟩
        have HW5 := hide hw5
        have HWT := hide hwt
        have hb6' : Below wc.heap.size wc (w6.alloc (.cells #[.slice Az zs.length ez, .slice Aw ws.length ew, .slice Ab bs.length eb] 27)) := hb6.alloc hb6.size _
        have HM7 := hide (show DM B b (N + 72) w (w6.alloc (.cells #[.slice Az zs.length ez, .slice Aw ws.length ew, .slice Ab bs.length eb] 27)) P w6.heap.size nm A c rs Az ez Aw ew Ab eb zs ws bs from ⟨HP.out.go (HP.out.t.d.below hb6') (grown_of_below hb6' _), heap_alloc_new w6 _, ⟨N1, (hmo.below ((Below.refl _ _).alloc (Nat.le_refl _) _)).mono hbz⟩, by have := hb6.size; omega⟩)
        have HZ7 := hide (HZ.out.below hb6')
        clear hw5 hwt hmo hb6 hb6' hbz HP HZ HST
        go_upto_region 8 with fail
        obtain ⟨M, hM⟩ : ∃ M, M = w6.heap.size := ⟨_, rfl⟩
        rw [← hM] at HM7 ⊢
        clear hM
        generalize w6.alloc (.cells #[.slice Az zs.length ez, .slice Aw ws.length ew, .slice Ab bs.length eb] 27) = w7 at *
        go_wp2_with fail
        refine (l04DrawOk_is B b (N + 72) w7 HM7.out.p.t.d.s (by omega)).mono ?_
        rintro e w8 ⟨t0, t1, t2, t3, t4, rfl, htb, hd8⟩
        have HTB := hide htb
        have hal : Below w8.heap.size w8 (w8.alloc (.cells #[.int .i64 t0, .int .i64 t1, .int .i64 t2, .int .i64 t3, .int .i64 t4] 32)) := (Below.refl _ _).alloc (Nat.le_refl _) _
        have HM8 := hide (HM7.out.go (HM7.out.p.t.d.step hd8.s hd8.bel hd8.gr) hd8.gr)
        have HM9 := hide (HM8.out.go (HM8.out.p.t.d.below hal) (grown_of_below hal _))
        have HZ9 := hide (Own.below (own_farN HZ7.out (show b < w.heap.size + 3 by omega) hd8.gr) hal)
        have HS9 := hide (heap_alloc_new w8 (.cells #[.int .i64 t0, .int .i64 t1, .int .i64 t2, .int .i64 t3, .int .i64 t4] 32))
        have HSB := hide (show b < w8.heap.size from by have := heap_lt HM8.out.m; have := HM8.out.hM; omega)
        clear htb hd8 hal HM7 HM8 HZ7
        go_upto_region 9 with fail
        obtain ⟨S, hS⟩ : ∃ S, S = w8.heap.size := ⟨_, rfl⟩
        rw [← hS] at HS9 HSB ⊢
        clear hS
        generalize w8.alloc (.cells #[.int .i64 t0, .int .i64 t1, .int .i64 t2, .int .i64 t3, .int .i64 t4] 32) = w9 at *
        go_cut [9, 10] (fun s9 s10 wx => ∃ (F : Nat) (ok : Bool) (Az' : Option Addr) (ez' : Nat) (Aw' : Option Addr) (ew' : Nat) (Ab' : Option Addr) (eb' : Nat) (zs' : List Int) (ws' : List (List Int)) (bs' : List Int), s9 = .pointer (some ⟨F, 0, none⟩) ∧ s10 = .bool ok ∧ Hid (wx.heap[F]? = some (.cells #[.slice Az' zs'.length ez', .slice Aw' ws'.length ew', .slice Ab' bs'.length eb'] 27 (0, 0))) ∧ Hid (ok = true → zs' = zs ∧ ws' = ws ∧ bs'.length = 5 ∧ (∀ k, k < 5 → 1 ≤ ig bs' k ∧ ig bs' k ≤ 1000000000) ∧ ∃ N2, MdO wx (w.heap.size + 3) N2 Az' ez' Aw' ew' Ab' eb' zs' ws' bs') ∧ Hid (wx.heap[S]? = some (.cells #[.int .i64 t0, .int .i64 t1, .int .i64 t2, .int .i64 t3, .int .i64 t4] 32 (0, 0))) ∧ Hid (OwnI wx (w.heap.size + 3) (.slice (some ⟨gz, 0, none⟩) zs.length cz) zs) ∧ Hid (DM B b (N + 96) w wx P M nm A c rs Az ez Aw ew Ab eb zs ws bs))
        case first =>
          have HFT := hide (show Calls Tryz.prog 87 #[.pointer (some ⟨M, 0, none⟩), .pointer (some ⟨P, 0, none⟩), .pointer (some ⟨S, 0, none⟩)] w9 (FitRes zs ws w9) from by
            obtain ⟨N1, hmo⟩ := HM9.out.o
            have hm := HM9.out.m
            have hp := HM9.out.p.p
            exact specl08Fit M P S (w.heap.size + 3) N1 Az ez Aw ew Ab eb zs ws bs nm A c rs t0 t1 t2 t3 t4 w9 ⟨heap_lt hm, by simp [World.cell?, hm], by simp [World.cell?, hm], by simp [World.cell?, hm], hmo.md⟩ hmo ⟨heap_lt hp, by simp [World.cell?, hp], by simp [World.cell?, hp], HM9.out.p.o.at_ (fun _ => rfl)⟩ HS9.out (hide (std_ok HZN.out (by omega) HW5.out HWT.out HBL.out HBB.out)) (hide (HZN.out.ok (by omega))) (hide HRD.out.walls) (by omega) (by omega) HTB)
          go_wp2_with fail
          refine HFT.out.mono ?_
          rintro e wF hF
          rcases hF with ⟨Az', ez', Aw', ew', Ab', eb', N2, bs', rfl, hl', hr', hmo', hbF⟩ | ⟨rfl, hbF⟩
          · have HFF := hide (show zs = zs ∧ ws = ws ∧ bs'.length = 5 ∧ (∀ k, k < 5 → 1 ≤ ig bs' k ∧ ig bs' k ≤ 1000000000) ∧ ∃ N2, MdO (wF.alloc (.cells #[.slice Az' zs.length ez', .slice Aw' ws.length ew', .slice Ab' bs'.length eb'] 27)) (w.heap.size + 3) N2 Az' ez' Aw' ew' Ab' eb' zs ws bs' from ⟨rfl, rfl, hl', hr', N2, (hmo'.below ((Below.refl _ _).alloc (Nat.le_refl _) _)).mono (by have := heap_lt HM9.out.m; have := HM9.out.hM; omega)⟩)
            have HBF := hide (show Below w9.heap.size w9 (wF.alloc (.cells #[.slice Az' zs.length ez', .slice Aw' ws.length ew', .slice Ab' bs'.length eb'] 27)) from hbF.alloc hbF.size _)
            clear hl' hr' hmo' hbF
            go_wp2_with fail
            go_meet
            exact ⟨_, true, Az', ez', Aw', ew', Ab', eb', zs, ws, bs', rfl, rfl, hide (heap_alloc_new wF _), hide (fun _ => ⟨rfl, rfl, HFF.out.2.2⟩), hide ((HBF.out.block _ (heap_lt HS9.out)).trans HS9.out), hide (HZ9.out.below HBF.out), hide (HM9.out.go ((HM9.out.p.t.d.below HBF.out).more (by omega)) (grown_of_below HBF.out _))⟩
          · have HBF := hide (show Below w9.heap.size w9 (wF.alloc (.cells #[.slice none 0 0, .slice none 0 0, .slice none 0 0] 27)) from hbF.alloc hbF.size _)
            clear hbF
            go_wp2_with fail
            go_meet
            exact ⟨_, false, none, 0, none, 0, none, 0, [], [], [], rfl, rfl, hide (heap_alloc_new wF _), hide (fun e => by simp at e), hide ((HBF.out.block _ (heap_lt HS9.out)).trans HS9.out), hide (HZ9.out.below HBF.out), hide (HM9.out.go ((HM9.out.p.t.d.below HBF.out).more (by omega)) (grown_of_below HBF.out _))⟩
        case rest =>
          clear HM9 HZ9 HS9
          obtain ⟨F, ok, Az', ez', Aw', ew', Ab', eb', zs', ws', bs', rfl, rfl, HF, HFF, HS, HZ, HM⟩ := hcut
          obtain ⟨wA, hwA⟩ : ∃ wA, wA = wc := ⟨_, rfl⟩
          rw [← hwA]
          rw [← hwA] at HF HFF HS HZ HM
          clear hwA
          go_upto_if 43 with fail
          go_cut [] (fun wx => ∃ (Az : Option Addr) (ez : Nat) (Aw : Option Addr) (ew : Nat) (Ab : Option Addr) (eb : Nat) (bs : List Int), Hid (bs.length = 5) ∧ Hid (∀ k, k < 5 → 1 ≤ ig bs k ∧ ig bs k ≤ 1000000000) ∧ Hid (wx.heap[S]? = some (.cells #[.int .i64 t0, .int .i64 t1, .int .i64 t2, .int .i64 t3, .int .i64 t4] 32 (0, 0))) ∧ Hid (OwnI wx (w.heap.size + 3) (.slice (some ⟨gz, 0, none⟩) zs.length cz) zs) ∧ Hid (DM B b (N + 96) w wx P M nm A c rs Az ez Aw ew Ab eb zs ws bs))
          case first =>
            cases ok
            · go_wp2_with fail
              go_meet
              exact ⟨Az, ez, Aw, ew, Ab, eb, bs, HBL, HBB, HS, HZ, HM⟩
            · obtain ⟨e1, e2, hl', hr', N2, hmo'⟩ := HFF.out rfl
              subst e1
              subst e2
              have hf := HF.out
              have f0 : wA.cell? ⟨F, 0, none⟩ = some (.slice Az' zs'.length ez') := by simp [World.cell?, hf]
              have f1 : wA.cell? ⟨F, 1, none⟩ = some (.slice Aw' ws'.length ew') := by simp [World.cell?, hf]
              have f2 : wA.cell? ⟨F, 2, none⟩ = some (.slice Ab' bs'.length eb') := by simp [World.cell?, hf]
              have hm := HM.out.m
              have m0 : wA.cell? ⟨M, 0, none⟩ = some (.slice Az zs'.length ez) := by simp [World.cell?, hm]
              have m1 : wA.cell? ⟨M, 1, none⟩ = some (.slice Aw ws'.length ew) := by simp [World.cell?, hm]
              have m2 : wA.cell? ⟨M, 2, none⟩ = some (.slice Ab bs.length eb) := by simp [World.cell?, hm]
              have u0 : wA.frozen? ⟨M, 0, none⟩ = false := by simp [World.frozen?, hm]
              have u1 : wA.frozen? ⟨M, 1, none⟩ = false := by simp [World.frozen?, hm]
              have u2 : wA.frozen? ⟨M, 2, none⟩ = false := by simp [World.frozen?, hm]
              have q0 := heap_setD (j := 0) (.slice Az' zs'.length ez') hm
              have q1 := heap_setD (j := 1) (.slice Aw' ws'.length ew') q0
              have HX := hide (And.intro hl' (And.intro hr' (And.intro (HM.out.setM hmo') (And.intro (own_cell (j := 2) (x := .slice Ab' bs'.length eb') (own_cell (j := 1) (x := .slice Aw' ws'.length ew') (own_cell (j := 0) (x := .slice Az' zs'.length ez') HZ.out hm (by decide)) q0 (by decide)) q1 (by decide)) ((heap_other (j := 2) (x := .slice Ab' bs'.length eb') (show S ≠ M from fun e => by subst e; have := hm.symm.trans HS.out; injection this with this; injection this with _ e _; exact absurd e (by decide))).trans ((heap_other (j := 1) (x := .slice Aw' ws'.length ew') (show S ≠ M from fun e => by subst e; have := hm.symm.trans HS.out; injection this with this; injection this with _ e _; exact absurd e (by decide))).trans ((heap_other (j := 0) (x := .slice Az' zs'.length ez') (show S ≠ M from fun e => by subst e; have := hm.symm.trans HS.out; injection this with this; injection this with _ e _; exact absurd e (by decide))).trans HS.out)))))))
              clear hl' hr' hmo' hm hf q0 q1 HF HFF
              go_wp2_with fail
              go_meet
              exact ⟨Az', ez', Aw', ew', Ab', eb', bs', hide HX.out.1, hide HX.out.2.1, hide HX.out.2.2.2.2, hide HX.out.2.2.2.1, hide HX.out.2.2.1⟩
          case rest =>
            clear HF HFF HS HZ HM HBL HBB Az ez Aw ew Ab eb bs
            obtain ⟨Az, ez, Aw, ew, Ab, eb, bs, HBL, HBB, HS, HZ, HM⟩ := hcut
            obtain ⟨wB, hwB⟩ : ∃ wB, wB = wc := ⟨_, rfl⟩
            rw [← hwB]
            rw [← hwB] at HS HZ HM
            clear hwB
            have hal : Below wB.heap.size wB (wB.alloc (.cells #[.int .i64 20, .int .i64 50, .int .i64 200, .int .i64 10, .int .i64 1000] 2)) := (Below.refl _ _).alloc (Nat.le_refl _) _
            have HXA := hide (slat_new (enc := encI) (sz := 1) (fun _ => rfl) wB [20, 50, 200, 10, 1000] #[.int .i64 20, .int .i64 50, .int .i64 200, .int .i64 10, .int .i64 1000] 2 rfl)
            have HM2 := hide (HM.out.go (HM.out.p.t.d.below hal) (grown_of_below hal _))
            have HZ2 := hide (HZ.out.below hal)
            have HS2 := hide ((hal.block _ (heap_lt HS.out)).trans HS.out)
            have HBS := hide (show b < wB.heap.size from by have := heap_lt HM.out.m; have := HM.out.hM; omega)
            clear hal HM HZ HS
            go_wp2_with fail
            refine (srcamong B b (N + 96) (some ⟨wB.heap.size, 0, none⟩) 5 [20, 50, 200, 10, 1000] _ HM2.out.p.t.d.s (by omega) HXA.out (fun b2 off e => by injection e with e; injection e with e; have := HBS.out; omega) (by simp) (by simp)).mono ?_
            rintro e wC ⟨tol, rfl, _, hsC, hbC, hgC⟩
            have hal : Below wC.heap.size wC (wC.alloc (.cells #[.int .i64 3, .int .i64 4, .int .i64 6, .int .i64 2] 2)) := (Below.refl _ _).alloc (Nat.le_refl _) _
            have HXC := hide (slat_new (enc := encI) (sz := 1) (fun _ => rfl) wC [3, 4, 6, 2] #[.int .i64 3, .int .i64 4, .int .i64 6, .int .i64 2] 2 rfl)
            have HM3 := hide (HM2.out.go (HM2.out.p.t.d.step hsC hbC hgC) hgC)
            have HM4 := hide (HM3.out.go (HM3.out.p.t.d.below hal) (grown_of_below hal _))
            have HZ4 := hide (Own.below (own_farN HZ2.out (show b < w.heap.size + 3 by omega) hgC) hal)
            have HS4 := hide ((hal.block _ (Nat.lt_of_lt_of_le (heap_lt HS2.out) hgC.size)).trans ((hgC.block _ (heap_lt HS2.out) (fun e => by injection e with e; have := HSB.out; omega)).trans HS2.out))
            have HBS4 := hide (show b < wC.heap.size from by have := heap_lt HM3.out.m; have := HM3.out.hM; omega)
            clear hal hsC hbC hgC HM2 HM3 HZ2 HS2 HBS HXA
            go_wp2_with fail
            refine (srcamong B b (N + 98) (some ⟨wC.heap.size, 0, none⟩) 4 [3, 4, 6, 2] _ HM4.out.p.t.d.s (by omega) HXC.out (fun b2 off e => by injection e with e; injection e with e; have := HBS4.out; omega) (by simp) (by simp)).mono ?_
            rintro e wD ⟨most, rfl, _, hsD, hbD, hgD⟩
            have hal : Below wD.heap.size wD (wD.alloc (.cells #[.int .i64 0, .int .i64 0, .int .i64 0, .int .i64 0, .int .i64 0, .int .i64 tol, .int .i64 most] 34)) := (Below.refl _ _).alloc (Nat.le_refl _) _
            have HM5 := hide (HM4.out.go (HM4.out.p.t.d.step hsD hbD hgD) hgD)
            have HG6 := hide (show DG B b (N + 100) w (wD.alloc (.cells #[.int .i64 0, .int .i64 0, .int .i64 0, .int .i64 0, .int .i64 0, .int .i64 tol, .int .i64 most] 34)) P M wD.heap.size nm A c rs Az ez Aw ew Ab eb zs ws bs [0, 0, 0, 0, 0, tol, most] from ⟨HM5.out.go (HM5.out.p.t.d.below hal) (grown_of_below hal _), heap_alloc_new wD _, rfl, by have := heap_lt HM5.out.m; have := HM5.out.hM; omega⟩)
            have HZ6 := hide (Own.below (own_farN HZ4.out (show b < w.heap.size + 3 by omega) hgD) hal)
            have HS6 := hide ((hal.block _ (Nat.lt_of_lt_of_le (heap_lt HS4.out) hgD.size)).trans ((hgD.block _ (heap_lt HS4.out) (fun e => by injection e with e; have := HSB.out; omega)).trans HS4.out))
            clear hal hsD hbD hgD HM4 HM5 HZ4 HS4 HBS4 HXC
            go_upto_region 13 with fail
            obtain ⟨G, hG⟩ : ∃ G, G = wD.heap.size := ⟨_, rfl⟩
            rw [← hG] at HG6 ⊢
            clear hG
            generalize wD.alloc (.cells #[.int .i64 0, .int .i64 0, .int .i64 0, .int .i64 0, .int .i64 0, .int .i64 tol, .int .i64 most] 34) = wE at *
            have HG7 := hide (((((HG6.out.setG 0 t0).setG 1 t1).setG 2 t2).setG 3 t3).setG 4 t4)
            have HZ7 := hide (HG6.out.setGz HZ6.out t0 t1 t2 t3 t4)
            have hs := HS6.out
            have s0 : wE.cell? ⟨S, 0, none⟩ = some (.int .i64 t0) := by simp [World.cell?, hs]
            have s1 : wE.cell? ⟨S, 1, none⟩ = some (.int .i64 t1) := by simp [World.cell?, hs]
            have s2 : wE.cell? ⟨S, 2, none⟩ = some (.int .i64 t2) := by simp [World.cell?, hs]
            have s3 : wE.cell? ⟨S, 3, none⟩ = some (.int .i64 t3) := by simp [World.cell?, hs]
            have s4 : wE.cell? ⟨S, 4, none⟩ = some (.int .i64 t4) := by simp [World.cell?, hs]
            have hg := HG6.out.g
            have g0 : wE.cell? ⟨G, 0, none⟩ = some (.int .i64 0) := by simp [World.cell?, hg]
            have g1 : wE.cell? ⟨G, 1, none⟩ = some (.int .i64 0) := by simp [World.cell?, hg]
            have g2 : wE.cell? ⟨G, 2, none⟩ = some (.int .i64 0) := by simp [World.cell?, hg]
            have g3 : wE.cell? ⟨G, 3, none⟩ = some (.int .i64 0) := by simp [World.cell?, hg]
            have g4 : wE.cell? ⟨G, 4, none⟩ = some (.int .i64 0) := by simp [World.cell?, hg]
            have u : ∀ j, wE.frozen? ⟨G, j, none⟩ = false := fun j => by simp [World.frozen?, hg]
            have u0 := u 0
            have u1 := u 1
            have u2 := u 2
            have u3 := u 3
            have u4 := u 4
            clear u hs hg HG6 HZ6 HS6
            go_upto_region 14 with fail
            obtain ⟨wG, hwG⟩ : ∃ wG, wG = ((((wE.setCell ⟨G, 0, none⟩ (.int .i64 t0)).setCell ⟨G, 1, none⟩ (.int .i64 t1)).setCell ⟨G, 2, none⟩ (.int .i64 t2)).setCell ⟨G, 3, none⟩ (.int .i64 t3)).setCell ⟨G, 4, none⟩ (.int .i64 t4) := ⟨_, rfl⟩
            rw [← hwG] at HG7 HZ7 ⊢
            clear hwG s0 s1 s2 s3 s4 g0 g1 g2 g3 g4 u0 u1 u2 u3 u4
            go_wp2_with fail
            refine (srcOne B b (N + 100) 5 wG HG7.out.m.p.t.d.s (by omega) (by omega)).mono ?_
            rintro e wH ⟨dd, rfl, hsH, hbH, hgH⟩
            have HG8 := hide (HG7.out.go (HG7.out.m.p.t.d.step hsH hbH hgH) hgH)
            have HZ8 := hide (own_farN HZ7.out (show b < w.heap.size + 3 by omega) hgH)
            clear hsH hbH hgH HG7 HZ7
            go_upto_if 56 with fail
            go_cut [] (fun wx => ∃ gs, Hid (DG B b (N + 120) w wx P M G nm A c rs Az ez Aw ew Ab eb zs ws bs gs))
            case first =>
              cases dd
              · obtain ⟨i0, hi, hz0, hz1, hz2⟩ := info_parts info_i64
                have hmk := fun W => run_make_rowN (P := Tryz.prog) 24 2 i0 _ Tryz.underlying24 hi hz0 .i64 .i64 8 8 (Nat.le_refl _) (by rw [hz2]; omega) (by omega) W
                rw [hz1] at hmk
                have HO := hide (own_zeros (w := wH) (B := wH.heap.size) (n := 8) (Nat.le_refl _) (by simp [maxLen]))
                generalize madeCells (Value.int .i64 0).cells (8 * 1) = cs at hmk HO
                have hmk8 : ∀ W : World, (Instr.makeSlice 24 (.int .i64 8) (.int .i64 8)).run Tryz.prog W = .ok (.slice (some ⟨W.heap.size, 0, none⟩) 8 8) (W.alloc (.cells cs 2)) := hmk
                have hal : Below wH.heap.size wH (wH.alloc (.cells cs 2)) := (Below.refl _ _).alloc (Nat.le_refl _) _
                have HGR := hide (grown_of_below hal (some b))
                have HDW := hide (HG8.out.m.p.t.d.below hal)
                have HHS := hide (show b < wH.heap.size from by have := heap_lt HG8.out.g; have := HG8.out.hG; omega)
                have hzl8 : zs.length ≤ 8 := by have := HZN.out.len; omega
                have hzl1 : 1 ≤ zs.length := by have := HZN.out.len; omega
                clear hi hz0 hz1 hz2 hmk hal
                go_wp2_with fail
                clear hmk8
                generalize wH.alloc (.cells cs 2) = wI at *
                go_loopw [13] (fun v wr => ∃ (z : Nat) (ss : List Int), v = .int .i64 z ∧ z ≤ zs.length ∧ ss.length = 8 ∧ Hid (∀ j, 0 ≤ ig ss j ∧ ig ss j ≤ 3) ∧ Hid (OwnI wr wH.heap.size (.slice (some ⟨wH.heap.size, 0, none⟩) 8 8) ss) ∧ Hid (Dw B b (N + 102 + 2 * z) w wr) ∧ Hid (wH.grownBy wr (some b))) (fun v _ => zs.length - (intOf v).toNat)
                case atStart => exact ⟨0, List.replicate 8 0, rfl, by omega, by simp, hide (fun j => by rw [show ig (List.replicate 8 (0 : Int)) j = 0 from by unfold ig; rw [List.getD_eq_getElem?_getD, List.getElem?_replicate]; split <;> rfl]; omega), HO, HDW, HGR⟩
                case round =>
                  clear HO HDW HGR
                  obtain ⟨z, ss, rfl, hz, hsl, HSB, HO, HDW, HGR⟩ := hrel
                  have HSL := hide hsl
                  clear hsl
                  by_cases hlt : z < zs.length
                  · have hzi : (z : Int) < zs.length := by omega
                    have hz0 : (0 : Int) ≤ z := by omega
                    have hz8 : z < 8 := by omega
                    have hz8i : (z : Int) < 8 := by omega
                    go_wp2_with fail
                    refine (srcPick B b (N + 102 + 2 * z) 4 wr HDW.out.s (by omega) (by omega)).mono ?_
                    rintro e wK ⟨r, rfl, r0, r1, hsK, hbK, hgK⟩
                    have hr1 := r1 (by omega)
                    have HDK := hide (HDW.out.step hsK hbK hgK)
                    have HOK := hide (own_farN HO.out HHS.out hgK)
                    have HGK := hide (grown_trans HGR.out hgK)
                    obtain ⟨g, hg, g1, g2, c1, f1⟩ := own_get1 (k := z) HOK.out (by rw [HSL.out]; omega)
                    injection hg with hg; injection hg with hg
                    have HSN := hide (own_set1 (f := fun x : Int => .int .i64 x) (fun _ => rfl) HOK.out (k := z) r)
                    have HDN := hide (HDK.out.set (q := wH.heap.size) (by have := HG8.out.m.p.t.d.size; omega) z (.int .i64 r))
                    have HGN := hide (grown_new HGK.out (Nat.le_refl wH.heap.size) z (.int .i64 r))
                    rw [← hg] at c1 f1
                    clear hsK hbK hgK r1 HO HDW HGR HDK HOK HGK g1 g2 hg g
                    go_wp2_with fail
                    go_roundw
                    case rel =>
                      refine ⟨_, _, _, _, _, _, _, _, _, _, _, _, ⟨z + 1, ss.set z r, ?_, by omega, by rw [List.length_set]; exact HSL.out, hide (fun j => by
                        rw [ig_set ss z j r (by rw [HSL.out]; omega)]
                        have := HSB.out j
                        split <;> omega), HSN, hide (Dw.more (N := N + 102 + 2 * z + 2) HDN.out (by omega)), HGN⟩, rfl⟩
                      go_num
                    case measure => simp [intOf]; omega
                  · obtain rfl : z = zs.length := by omega
                    have HG9 := hide (HG8.out.go (HDW.out.more (N' := N + 120) (by omega)) HGR.out)
                    have HZ9 := hide (own_farN HZ8.out (show b < w.heap.size + 3 by omega) HGR.out)
                    have HWT9 := hide (show WallOK (turn zs ss rs) from fun k hk => by
                      rw [turn_length] at hk
                      rw [rg_turn zs ss rs k hk]
                      have a := HRD.out.ring k hk
                      have b := HSB.out (zoneAt zs (k : Int))
                      simp only [cutR]
                      omega)
                    have HCT := hide (show Calls Tryz.prog 90 #[.pointer (some ⟨P, 0, none⟩), .slice (some ⟨gz, 0, none⟩) zs.length cz, .slice (some ⟨wH.heap.size, 0, none⟩) 8 8] wr (TurnRes nm (turn zs ss rs) wr) from by
                      have hp := HG9.out.m.p.p
                      have := specl09Turned P nm A c rs (some ⟨gz, 0, none⟩) (some ⟨wH.heap.size, 0, none⟩) cz 8 zs ss wr ⟨heap_lt hp, by simp [World.cell?, hp], by simp [World.cell?, hp], HG9.out.m.p.o.at_ (fun _ => rfl)⟩ (HZ9.out.at_ (fun _ => rfl)) (OwnI.sl HO.out HSL.out.symm) (by omega) (by omega) hzl1 (by rw [HSL.out]; omega) (by rw [HSL.out]; omega) (hide (fun k => by have := HSB.out k; omega)) (hide (fun k hk => by have := HRD.out.ring k hk; omega))
                      rw [HSL.out] at this
                      exact this)
                    clear HG8 HZ8 HO HDW HGR
                    go_wp2_with fail
                    refine HCT.out.mono ?_
                    rintro e wL ⟨A2, c2, rfl, hoL, hbL⟩
                    rw [turn_length] at hoL ⊢
                    have hal : Below wL.heap.size wL (wL.alloc (.cells (PCELLS nm A2 rs.length c2) 30)) := (Below.refl _ _).alloc (Nat.le_refl _) _
                    have HBX := hide (hbL.trans (hal.mono hbL.size))
                    have HGA := hide (HG9.out.go (HG9.out.m.p.t.d.below HBX.out) (grown_of_below HBX.out _))
                    have HRW := hide (show Calls Tryz.prog 92 #[.pointer (some ⟨M, 0, none⟩), .pointer (some ⟨wL.heap.size, 0, none⟩)] (wL.alloc (.cells (PCELLS nm A2 rs.length c2) 30)) (fun e w' => ∃ A' c', e = .returned (.slice A' 5 c') ∧ OwnI w' (wL.alloc (.cells (PCELLS nm A2 rs.length c2) 30)).heap.size (.slice A' 5 c') (rawP zs ws bs (turn zs ss rs)) ∧ Below (wL.alloc (.cells (PCELLS nm A2 rs.length c2) 30)).heap.size (wL.alloc (.cells (PCELLS nm A2 rs.length c2) 30)) w') from by
                      obtain ⟨N1, hmo⟩ := HGA.out.m.o
                      have hm := HGA.out.m.m
                      have hp := heap_alloc_new wL (.cells (PCELLS nm A2 rs.length c2) 30)
                      exact specl08Raw M wL.heap.size Az Aw Ab ez ew eb zs ws bs nm A2 c2 (turn zs ss rs) _ ⟨heap_lt hm, by simp [World.cell?, hm], by simp [World.cell?, hm], by simp [World.cell?, hm], hmo.md⟩ ⟨heap_lt hp, by simp, by simp [turn_length], ((show OwnR (wL.alloc (.cells (PCELLS nm A2 rs.length c2) 30)) wr.heap.size (.slice A2 (turn zs ss rs).length c2) (turn zs ss rs) from by rw [turn_length]; exact hoL.below hal).at_ (fun _ => rfl))⟩ (by rw [turn_length]; omega) (by rw [turn_length]; omega) (hide (std_ok HZN.out (by omega) HW5.out HWT.out HBL.out HBB.out)) (hide (HZN.out.ok (by rw [turn_length]; omega))) HWT9)
                    clear hoL hbL hal HG9 HZ9 HCT
                    go_wp2_with fail
                    refine HRW.out.mono ?_
                    rintro e wR ⟨A4, c4, rfl, hoR, hbR⟩
                    obtain ⟨y0, y1, y2, y3, y4, hy⟩ : ∃ y0 y1 y2 y3 y4 : Int, rawP zs ws bs (turn zs ss rs) = [y0, y1, y2, y3, y4] := by
                      have hl := rawP_length zs ws bs (turn zs ss rs)
                      generalize rawP zs ws bs (turn zs ss rs) = l at hl
                      match l, hl with
                      | [y0, y1, y2, y3, y4], _ => exact ⟨y0, y1, y2, y3, y4, rfl⟩
                    rw [hy] at hoR
                    have HSD := hide (specl04Sound_is A4 c4 y0 y1 y2 y3 y4 wR (OwnI.sl hoR rfl))
                    have HGB := hide (HGA.out.go (HGA.out.m.p.t.d.below hbR) (grown_of_below hbR _))
                    clear hy hoR hbR HGA HRW HBX HWT9
                    go_wp2_with fail
                    refine HSD.out.mono ?_
                    rintro e wS ⟨rfl, hbS⟩
                    have HGC := hide (HGB.out.go (HGB.out.m.p.t.d.below hbS) (grown_of_below hbS _))
                    have HGD := hide (((((HGC.out.setG 0 y0).setG 1 y1).setG 2 y2).setG 3 y3).setG 4 y4)
                    have hg := HGC.out.g
                    have g0 : wS.cell? ⟨G, 0, none⟩ = some (.int .i64 t0) := by simp [World.cell?, hg]
                    have g1 : wS.cell? ⟨G, 1, none⟩ = some (.int .i64 t1) := by simp [World.cell?, hg]
                    have g2 : wS.cell? ⟨G, 2, none⟩ = some (.int .i64 t2) := by simp [World.cell?, hg]
                    have g3 : wS.cell? ⟨G, 3, none⟩ = some (.int .i64 t3) := by simp [World.cell?, hg]
                    have g4 : wS.cell? ⟨G, 4, none⟩ = some (.int .i64 t4) := by simp [World.cell?, hg]
                    have u : ∀ j, wS.frozen? ⟨G, j, none⟩ = false := fun j => by simp [World.frozen?, hg]
                    have u0 := u 0
                    have u1 := u 1
                    have u2 := u 2
                    have u3 := u 3
                    have u4 := u 4
                    clear u hg hbS HGB HGC HSD
                    go_wp2_with fail
                    go_meet
                    exact ⟨_, HGD⟩
              · go_wp2_with fail
                go_meet
                exact ⟨_, hide (HG8.out.go (HG8.out.m.p.t.d.more (by omega)) (grown_refl _ _))⟩
            case rest =>
              clear HG8 HZ8
              obtain ⟨gs, HG⟩ := hcut
              obtain ⟨wM, hwM⟩ : ∃ wM, wM = wc := ⟨_, rfl⟩
              rw [← hwM]
              rw [← hwM] at HG
              clear hwM
              go_wp2_with fail
              refine (srcPick B b (N + 120) 24 wM HG.out.m.p.t.d.s (by omega) (by omega)).mono ?_
              rintro e wN ⟨v, rfl, v0, v1, hsN, hbN, hgN⟩
              have HGN := hide (HG.out.go (HG.out.m.p.t.d.step hsN hbN hgN) hgN)
              clear hsN hbN hgN HG v1
              go_upto_block 2 with fail
              go_cut [] (fun wx => ∃ (nm : ByteArray) (A : Option Addr) (c : Nat) (rs : List RingR) (bs gs : List Int), nm.size ≤ 100 ∧ rs.length ≤ 40 ∧ bs.length = 5 ∧ Hid (DG B b (N + 220) w wx P M G nm A c rs Az ez Aw ew Ab eb zs ws bs gs))
              case first =>
                have hg := HGN.out.g
                have hg7 := HGN.out.l
                have HHS := hide (show b < wN.heap.size from by have := heap_lt HGN.out.g; have := HGN.out.hG; omega)
                by_cases e0 : v = 0
                · subst e0
                  have hal : Below wN.heap.size wN (wN.alloc (.cells #[.int .i64 (-1), .int .i64 0, .int .i64 20000, .int .i64 20001] 2)) := (Below.refl _ _).alloc (Nat.le_refl _) _
                  have HX := hide (slat_new (enc := encI) (sz := 1) (fun _ => rfl) wN [-1, 0, 20000, 20001] #[.int .i64 (-1), .int .i64 0, .int .i64 20000, .int .i64 20001] 2 rfl)
                  have HG2 := hide (HGN.out.go (HGN.out.m.p.t.d.below hal) (grown_of_below hal _))
                  clear hal hg hg7 HGN
                  go_wp2_with fail
                  refine (srcamong B b (N + 122) (some ⟨wN.heap.size, 0, none⟩) 4 [-1, 0, 20000, 20001] _ HG2.out.m.p.t.d.s (by omega) HX.out (fun b2 off e => by injection e with e; injection e with e; have := HHS.out; omega) (by simp) (by simp)).mono ?_
                  rintro e wO ⟨tol', rfl, _, hsO, hbO, hgO⟩
                  have HG3 := hide (HG2.out.go (HG2.out.m.p.t.d.step hsO hbO hgO) hgO)
                  have HG4 := hide ((HG3.out.setG 5 tol').more (N' := N + 220) (by omega))
                  obtain ⟨x, hx⟩ : ∃ x, wO.cell? ⟨G, 5, none⟩ = some (.int .i64 x) := HG3.out.gcell 5 (by omega)
                  have hf : wO.frozen? ⟨G, 5, none⟩ = false := HG3.out.gfroz 5
                  clear hsO hbO hgO HG2 HG3 HX
                  go_wp2_with fail
                  go_meet
                  exact ⟨nm, A, c, rs, bs, _, HNM.out, by omega, HBL.out, HG4⟩
                have d0 : (v == 0) = false := by simpa using e0
                by_cases e1 : v = 1
                · subst e1
                  have hal : Below wN.heap.size wN (wN.alloc (.cells #[.int .i64 (-1), .int .i64 0, .int .i64 20, .int .i64 21] 2)) := (Below.refl _ _).alloc (Nat.le_refl _) _
                  have HX := hide (slat_new (enc := encI) (sz := 1) (fun _ => rfl) wN [-1, 0, 20, 21] #[.int .i64 (-1), .int .i64 0, .int .i64 20, .int .i64 21] 2 rfl)
                  have HG2 := hide (HGN.out.go (HGN.out.m.p.t.d.below hal) (grown_of_below hal _))
                  clear hal hg hg7 HGN
                  go_wp2_with fail
                  refine (srcamong B b (N + 122) (some ⟨wN.heap.size, 0, none⟩) 4 [-1, 0, 20, 21] _ HG2.out.m.p.t.d.s (by omega) HX.out (fun b2 off e => by injection e with e; injection e with e; have := HHS.out; omega) (by simp) (by simp)).mono ?_
                  rintro e wO ⟨tol', rfl, _, hsO, hbO, hgO⟩
                  have HG3 := hide (HG2.out.go (HG2.out.m.p.t.d.step hsO hbO hgO) hgO)
                  have HG4 := hide ((HG3.out.setG 6 tol').more (N' := N + 220) (by omega))
                  obtain ⟨x, hx⟩ : ∃ x, wO.cell? ⟨G, 6, none⟩ = some (.int .i64 x) := HG3.out.gcell 6 (by omega)
                  have hf : wO.frozen? ⟨G, 6, none⟩ = false := HG3.out.gfroz 6
                  clear hsO hbO hgO HG2 HG3 HX
                  go_wp2_with fail
                  go_meet
                  exact ⟨nm, A, c, rs, bs, _, HNM.out, by omega, HBL.out, HG4⟩
                have d1 : (v == 1) = false := by simpa using e1
                by_cases e2 : v = 2
                · subst e2
                  clear hg hg7
                  go_wp2_with fail
                  refine (l04DrawOk_is B b (N + 122) wN HGN.out.m.p.t.d.s (by omega)).mono ?_
                  rintro e wO ⟨y0, y1, y2, y3, y4, rfl, _, hdO⟩
                  have HG3 := hide (HGN.out.go (HGN.out.m.p.t.d.step hdO.s hdO.bel hdO.gr) hdO.gr)
                  have HG4 := hide ((((((HG3.out.setG 0 y0).setG 1 y1).setG 2 y2).setG 3 y3).setG 4 y4).more (N' := N + 220) (by omega))
                  obtain ⟨x0, hx0⟩ : ∃ x, wO.cell? ⟨G, 0, none⟩ = some (.int .i64 x) := HG3.out.gcell 0 (by omega)
                  obtain ⟨x1, hx1⟩ : ∃ x, wO.cell? ⟨G, 1, none⟩ = some (.int .i64 x) := HG3.out.gcell 1 (by omega)
                  obtain ⟨x2, hx2⟩ : ∃ x, wO.cell? ⟨G, 2, none⟩ = some (.int .i64 x) := HG3.out.gcell 2 (by omega)
                  obtain ⟨x3, hx3⟩ : ∃ x, wO.cell? ⟨G, 3, none⟩ = some (.int .i64 x) := HG3.out.gcell 3 (by omega)
                  obtain ⟨x4, hx4⟩ : ∃ x, wO.cell? ⟨G, 4, none⟩ = some (.int .i64 x) := HG3.out.gcell 4 (by omega)
                  have f0 : wO.frozen? ⟨G, 0, none⟩ = false := HG3.out.gfroz 0
                  have f1 : wO.frozen? ⟨G, 1, none⟩ = false := HG3.out.gfroz 1
                  have f2 : wO.frozen? ⟨G, 2, none⟩ = false := HG3.out.gfroz 2
                  have f3 : wO.frozen? ⟨G, 3, none⟩ = false := HG3.out.gfroz 3
                  have f4 : wO.frozen? ⟨G, 4, none⟩ = false := HG3.out.gfroz 4
                  clear hdO HG3 HGN
                  go_wp2_with fail
                  go_meet
                  exact ⟨nm, A, c, rs, bs, _, HNM.out, by omega, HBL.out, HG4⟩
                have d2 : (v == 2) = false := by simpa using e2
                by_cases e3 : v = 3
                · subst e3
                  clear hg hg7
                  go_wp2_with fail
                  refine (l05Bent_is B b (N + 122) wN HGN.out.m.p.t.d.s (by omega)).mono ?_
                  rintro e wO ⟨nm', A', c', rs', rfl, hn', hr', ho', hdO⟩
                  have HN' := hide hn'
                  have HG3 := hide (HGN.out.go (HGN.out.m.p.t.d.step hdO.s hdO.bel hdO.gr) hdO.gr)
                  have HG4 := hide ((HG3.out.setP (nm' := nm') (ho'.mono (by have := heap_lt HGN.out.g; have := HGN.out.hG; omega))).more (N' := N + 220) (by omega))
                  have hp := HG3.out.m.p.p
                  have x0 : wO.cell? ⟨P, 0, none⟩ = some (.string nm) := by simp [World.cell?, hp]
                  have x1 : wO.cell? ⟨P, 1, none⟩ = some (.slice A rs.length c) := by simp [World.cell?, hp]
                  have f0 : wO.frozen? ⟨P, 0, none⟩ = false := by simp [World.frozen?, hp]
                  have f1 : wO.frozen? ⟨P, 1, none⟩ = false := by simp [World.frozen?, hp]
                  clear hdO HG3 HGN ho' hp hn'
                  go_wp2_with fail
                  go_meet
                  exact ⟨nm', A', c', rs', bs, _, HN'.out, hr', HBL.out, HG4⟩
                have d3 : (v == 3) = false := by simpa using e3
                by_cases e4 : v = 4
                · subst e4
                  clear hg hg7
                  have hm := HGN.out.m.m
                  have m2 : wN.cell? ⟨M, 2, none⟩ = some (.slice Ab bs.length eb) := by simp [World.cell?, hm]
                  rw [HBL.out] at m2
                  obtain ⟨N1, hmo⟩ := HGN.out.m.o
                  obtain ⟨gb, hgb, _, _, c1, f1⟩ := own_get1 (k := 0) hmo.b (by rw [HBL.out]; omega)
                  subst hgb
                  have HG4 := hide ((HGN.out.setB (k := 0) 0).more (N' := N + 220) (by omega))
                  clear hmo hm HGN
                  go_wp2_with fail
                  go_meet
                  exact ⟨nm, A, c, rs, bs.set 0 0, _, HNM.out, by omega, by rw [List.length_set]; exact HBL.out, HG4⟩
                have d4 : (v == 4) = false := by simpa using e4
                by_cases e5 : v = 5
                · subst e5
                  have HG4 := hide ((HGN.out.setG 0 5).more (N' := N + 220) (by omega))
                  obtain ⟨x, hx⟩ : ∃ x, wN.cell? ⟨G, 0, none⟩ = some (.int .i64 x) := HGN.out.gcell 0 (by omega)
                  have hf : wN.frozen? ⟨G, 0, none⟩ = false := HGN.out.gfroz 0
                  clear hg hg7 HGN
                  go_wp2_with fail
                  go_meet
                  exact ⟨nm, A, c, rs, bs, _, HNM.out, by omega, HBL.out, HG4⟩
                · have d5 : (v == 5) = false := by simpa using e5
                  have HG4 := hide (HGN.out.more (N' := N + 220) (by omega))
                  clear hg hg7 HGN e0 e1 e2 e3 e4 e5
                  go_wp2_with fail
                  go_meet
                  exact ⟨nm, A, c, rs, bs, _, HNM.out, by omega, HBL.out, HG4⟩
              case rest =>
                clear HGN HRD HBL HBB HNM
                obtain ⟨nm, A, c, rs, bs, gs, hnm, hrl, hbl5, HG⟩ := hcut
                obtain ⟨wM, hwM⟩ : ∃ wM, wM = wc := ⟨_, rfl⟩
                rw [← hwM]
                rw [← hwM] at HG
                clear hwM
                have hg7 := HG.out.l
                match gs, hg7 with
                | [t0, t1, t2, t3, t4, tol, most], _ =>
                  have HSZ := hide (WtOK.sz (zs := zs) (bs := bs) HWT.out (by have := HZN.out.len; omega) (by have := HZN.out.len; omega) HW5.out hbl5)
                  have HE := hide (show DE B b (N + 300) w wM A c rs Az ez Aw ew Ab eb zs ws bs from ⟨HG.out.m.p.t.d.more (by omega), HG.out.m.p.o, HG.out.m.o⟩)
                  have HRL := hide hrl
                  have HNM := hide hnm
                  have hm := HG.out.m.m
                  have m0 : wM.cell? ⟨M, 0, none⟩ = some (.slice Az zs.length ez) := by simp [World.cell?, hm]
                  have m1 : wM.cell? ⟨M, 1, none⟩ = some (.slice Aw ws.length ew) := by simp [World.cell?, hm]
                  have m2 : wM.cell? ⟨M, 2, none⟩ = some (.slice Ab bs.length eb) := by simp [World.cell?, hm]
                  have hp := HG.out.m.p.p
                  have p0 : wM.cell? ⟨P, 0, none⟩ = some (.string nm) := by simp [World.cell?, hp]
                  have p1 : wM.cell? ⟨P, 1, none⟩ = some (.slice A rs.length c) := by simp [World.cell?, hp]
                  have hg := HG.out.g
                  have g0 : wM.cell? ⟨G, 0, none⟩ = some (.int .i64 t0) := by simp [World.cell?, hg]
                  have g1 : wM.cell? ⟨G, 1, none⟩ = some (.int .i64 t1) := by simp [World.cell?, hg]
                  have g2 : wM.cell? ⟨G, 2, none⟩ = some (.int .i64 t2) := by simp [World.cell?, hg]
                  have g3 : wM.cell? ⟨G, 3, none⟩ = some (.int .i64 t3) := by simp [World.cell?, hg]
                  have g4 : wM.cell? ⟨G, 4, none⟩ = some (.int .i64 t4) := by simp [World.cell?, hg]
                  have g5 : wM.cell? ⟨G, 5, none⟩ = some (.int .i64 tol) := by simp [World.cell?, hg]
                  have g6 : wM.cell? ⟨G, 6, none⟩ = some (.int .i64 most) := by simp [World.cell?, hg]
                  have r1 := HG.out.m.p.t.r1
                  have x0 : wM.cell? ⟨w.heap.size, 0, none⟩ = some (.slice none 0 0) := by simp [World.cell?, r1]
                  have x1 : wM.cell? ⟨w.heap.size, 1, none⟩ = some (.slice none 0 0) := by simp [World.cell?, r1]
                  have x2 : wM.cell? ⟨w.heap.size, 2, none⟩ = some (.slice none 0 0) := by simp [World.cell?, r1]
                  have y0 : wM.frozen? ⟨w.heap.size, 0, none⟩ = false := by simp [World.frozen?, r1]
                  have y1 : wM.frozen? ⟨w.heap.size, 1, none⟩ = false := by simp [World.frozen?, r1]
                  have y2 : wM.frozen? ⟨w.heap.size, 2, none⟩ = false := by simp [World.frozen?, r1]
                  have r2 := HG.out.m.p.t.r2
                  have x3 : wM.cell? ⟨w.heap.size + 1, 0, none⟩ = some (.string ⟨#[]⟩) := by simp [World.cell?, r2]
                  have x4 : wM.cell? ⟨w.heap.size + 1, 1, none⟩ = some (.slice none 0 0) := by simp [World.cell?, r2]
                  have y3 : ∀ j, wM.frozen? ⟨w.heap.size + 1, j, none⟩ = false := fun j => by simp [World.frozen?, r2]
                  have y30 := y3 0
                  have y31 := y3 1
                  have r3 : wM.heap[w.heap.size + 1 + 1]? = _ := HG.out.m.p.t.r3
                  have z0 : wM.cell? ⟨w.heap.size + 1 + 1, 0, none⟩ = some (.int .i64 0) := by simp [World.cell?, r3]
                  have z1 : wM.cell? ⟨w.heap.size + 1 + 1, 1, none⟩ = some (.int .i64 0) := by simp [World.cell?, r3]
                  have z2 : wM.cell? ⟨w.heap.size + 1 + 1, 2, none⟩ = some (.int .i64 0) := by simp [World.cell?, r3]
                  have z3 : wM.cell? ⟨w.heap.size + 1 + 1, 3, none⟩ = some (.int .i64 0) := by simp [World.cell?, r3]
                  have z4 : wM.cell? ⟨w.heap.size + 1 + 1, 4, none⟩ = some (.int .i64 0) := by simp [World.cell?, r3]
                  have z5 : wM.cell? ⟨w.heap.size + 1 + 1, 5, none⟩ = some (.int .i64 0) := by simp [World.cell?, r3]
                  have z6 : wM.cell? ⟨w.heap.size + 1 + 1, 6, none⟩ = some (.int .i64 0) := by simp [World.cell?, r3]
                  have y4 : ∀ j, wM.frozen? ⟨w.heap.size + 1 + 1, j, none⟩ = false := fun j => by simp [World.frozen?, r3]
                  have y40 := y4 0
                  have y41 := y4 1
                  have y42 := y4 2
                  have y43 := y4 3
                  have y44 := y4 4
                  have y45 := y4 5
                  have y46 := y4 6
                  have hPl := HG.out.m.p.hP
                  have hMl := HG.out.m.hM
                  have hGl := HG.out.hG
                  clear r1 r2 r3 y3 y4 hm hp hg HG hg7 hnm hrl hbl5
                  go_wp2_with fail
                  go_region
                  all_goals
                    go_wp2_with fail
                    refine bodyPost_ret (v := .tuple #[.agg #[.slice Az zs.length ez, .slice Aw ws.length ew, .slice Ab bs.length eb], .agg #[.string nm, .slice A rs.length c], .agg #[.int .i64 t0, .int .i64 t1, .int .i64 t2, .int .i64 t3, .int .i64 t4, .int .i64 tol, .int .i64 most]]) (by simp [results, Tryz.results39, go_sem, x0, x1, x2, x3, x4, z0, z1, z2, z3, z4, z5, z6]) rfl ?_
                    refine draw_end HSZ.out HRL.out HNM.out ?_
                    iterate 13 (first | with_reducible refine DE.set (by omega) (by omega) ?_ | with_reducible refine DE.drew ?_ | skip)
                    exact HE.out
end Go.Proofs.YtnefgafmnpblpaaGreat
