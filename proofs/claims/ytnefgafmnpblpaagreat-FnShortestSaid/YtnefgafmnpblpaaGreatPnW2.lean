/- Contracts: whether models and goals are valid, on both sides; the codes of a search's arguments. -/
import Derived.Test.YtnefgafmnpblpaaGreatPnW
namespace Go.Proofs.YtnefgafmnpblpaaGreat
open Go.RowKit Pn

def wr_ (ws : List (List Int)) (k : Nat) : List Int := ws.getD k []
/-- A row of weights, and its base. -/
structure RowOK (zs : List Int) (ws : List (List Int)) (bs : List Int) (k : Nat) : Prop where
  len : (wr_ ws k).length = zs.length
  w : ∀ z, z < zs.length → 0 ≤ ig (wr_ ws k) z ∧ ig (wr_ ws k) z ≤ 1000
  some : ∃ z, z < zs.length ∧ ig (wr_ ws k) z ≠ 0
  b : 1 ≤ ig bs k ∧ ig bs k ≤ 1000000000
theorem model_rows {zs : List Int} {ws : List (List Int)} {bs : List Int} (h : ZonesOK zs 32) (h1 : ws.length = 5) (h2 : bs.length = 5) (h3 : ∀ k, k < 5 → RowOK zs ws bs k) : ModelOK zs ws bs :=
  ⟨h, h1, h2, fun k hk => (h3 k hk).len, fun k hk => (h3 k hk).w, fun k hk => (h3 k hk).some, fun k hk => (h3 k hk).b⟩
theorem Pn.ModelOK.row' {zs : List Int} {ws : List (List Int)} {bs : List Int} (h : ModelOK zs ws bs) (k : Nat) (hk : k < 5) : RowOK zs ws bs k := ⟨h.row k hk, h.w k hk, h.some k hk, h.b k hk⟩
/-- A model's slices lie in memory. -/
structure MdAt (w : World) (Az Aw Ab : Option Addr) (zs : List Int) (ws : List (List Int)) (bs : List Int) : Prop where
  z : SlAt encI 1 w Az zs
  g : SSAt w Aw ws
  b : SlAt encI 1 w Ab bs
theorem MdAt.below {w w' : World} {Az Aw Ab : Option Addr} {zs : List Int} {ws : List (List Int)} {bs : List Int} (h : MdAt w Az Aw Ab zs ws bs) (hb : Below w.heap.size w w') : MdAt w' Az Aw Ab zs ws bs := ⟨h.z.below hb, h.g.below hb, h.b.below hb⟩
/-- A model's sizes are small. -/
structure MdSz (zs : List Int) (ws : List (List Int)) (bs : List Int) : Prop where
  z : zs.length ≤ 1048576
  w : ws.length ≤ 1048576
  r : ∀ l ∈ ws, l.length ≤ 1048576
  b : bs.length ≤ 1048576
theorem MdSz.row {zs : List Int} {ws : List (List Int)} {bs : List Int} (h : MdSz zs ws bs) (k : Nat) : (wr_ ws k).length ≤ 1048576 := by
  by_cases hk : k < ws.length
  · rw [show wr_ ws k = ws[k] by unfold wr_; rw [List.getD_eq_getElem?_getD, List.getElem?_eq_getElem hk]; rfl]
    exact h.r _ (List.getElem_mem hk)
  · rw [show wr_ ws k = [] by unfold wr_; rw [List.getD_eq_getElem?_getD, List.getElem?_eq_none (by omega)]; rfl]; simp
/-- A model lies in a block. -/
structure MpAt (w : World) (bm : Nat) (Az : Option Addr) (cz : Nat) (Aw : Option Addr) (cw : Nat) (Ab : Option Addr) (cb : Nat) (zs : List Int) (ws : List (List Int)) (bs : List Int) : Prop where
  lt : bm < w.heap.size
  c0 : w.cell? ⟨bm, 0, none⟩ = some (.slice Az zs.length cz)
  c1 : w.cell? ⟨bm, 1, none⟩ = some (.slice Aw ws.length cw)
  c2 : w.cell? ⟨bm, 2, none⟩ = some (.slice Ab bs.length cb)
  md : MdAt w Az Aw Ab zs ws bs
theorem MpAt.below {w w' : World} {bm : Nat} {Az Aw Ab : Option Addr} {cz cw cb : Nat} {zs : List Int} {ws : List (List Int)} {bs : List Int} (h : MpAt w bm Az cz Aw cw Ab cb zs ws bs) (hb : Below w.heap.size w w') : MpAt w' bm Az cz Aw cw Ab cb zs ws bs :=
  ⟨Nat.lt_of_lt_of_le h.lt hb.size, (hb.cell (p := ⟨bm, 0, none⟩) h.lt).trans h.c0, (hb.cell (p := ⟨bm, 1, none⟩) h.lt).trans h.c1, (hb.cell (p := ⟨bm, 2, none⟩) h.lt).trans h.c2, h.md.below hb⟩
theorem MpAt.new {w : World} {Az Aw Ab : Option Addr} {cz cw cb : Nat} {zs : List Int} {ws : List (List Int)} {bs : List Int} (h : MdAt w Az Aw Ab zs ws bs) : MpAt (w.alloc (.cells #[.slice Az zs.length cz, .slice Aw ws.length cw, .slice Ab bs.length cb] 27)) w.heap.size Az cz Aw cw Ab cb zs ws bs :=
  ⟨by simp, by simp, by simp, by simp, h.below ((Below.refl _ _).alloc (Nat.le_refl _) _)⟩
set_option maxRecDepth 100000 in
theorem vmc1_is (x0 : Int) (b : Bool) (w : World) (hb : Hid ((fun x : Int => !inB x 0 1000) x0 = b)) :
    Calls Tryz.prog 179 #[.int .i64 x0] w fun e w' => e = .returned (.bool b) ∧ Below w.heap.size w w' := by
  go_enter Tryz.func179, Tryz.ntmps179
  go_wp2_with (go_at_call 120; refine (implwithin_any _ _ _ _).mono ?_; rintro e w' ⟨rfl, rfl⟩)
  go_ret
  exact ⟨ret_bool hb.out, Below.refl _ _⟩
set_option maxRecDepth 100000 in
theorem vmc_idx (A : Option Addr) (c : Nat) (xs : List Int)  (w : World) (h : SlAt encI 1 w A xs) (hn : xs.length ≤ 1048576) :
    Calls Tryz.prog 189 #[.slice A xs.length c, .func (.func 179) #[] #[]] w fun e w' => ∃ r : Int, e = .returned (.int .i64 r) ∧ decide (0 ≤ r) = xs.any (fun x : Int => !inB x 0 1000) ∧ Below w.heap.size w w' := by
  have HX := hide h
  clear h
  go_enter Tryz.func189, Tryz.ntmps189
  go_wp2_with fail
  go_loopw [8, 5] (fun v _ wr => ∃ k : Nat, v = .int .i64 k ∧ k ≤ xs.length ∧ Hid (∀ j (hj : j < xs.length), j < k → (fun x : Int => !inB x 0 1000) xs[j] = false) ∧ Hid (Below w.heap.size w wr)) (fun v _ _ => xs.length - (intOf v).toNat)
  case atStart => exact ⟨0, rfl, by omega, hide fun j _ h => by omega, hide (Below.refl _ _)⟩
  case round =>
    obtain ⟨k, rfl, hk, HJ, HB⟩ := hrel
    have hz := HB.out.size
    by_cases hlt : k < xs.length
    · obtain ⟨b, off, rfl, hbl, hc⟩ := (HX.out.below HB.out) k hlt
      have hc0 := hc 0 _ rfl
      simp only [Nat.add_zero, Nat.mul_one] at hc0
      have HE : Hid ((fun x : Int => !inB x 0 1000) xs[k] = true → xs.any (fun x : Int => !inB x 0 1000) = true) := hide fun h1 => List.any_eq_true.2 ⟨xs[k], List.getElem_mem hlt, h1⟩
      have HS : Hid ((fun x : Int => !inB x 0 1000) xs[k] = false → ∀ j (hj : j < xs.length), j < k + 1 → (fun x : Int => !inB x 0 1000) xs[j] = false) := hide fun h1 j hj h2 => by
        by_cases e : j = k
        · subst e; exact h1
        · exact HJ.out j hj (by omega)
      clear hc HJ
      generalize xs[k] = x at *
      obtain ⟨x0, rfl⟩ : ∃ x0, x0 = x := ⟨_, rfl⟩
      cases hp : (fun x : Int => !inB x 0 1000) x0
      · have HS2 := hide (HS.out hp)
        clear HS HE
        go_wp2_with (go_at_call 179; refine (vmc1_is x0  _ _ (hide hp)).mono ?_; rintro e w2 ⟨rfl, hb2⟩)
        go_roundw
        case rel => exact ⟨k + 1, by go_num, by omega, HS2, hide (HB.out.trans (hb2.mono hz))⟩
        case measure => simp [intOf]; omega
      · have E := hide (HE.out hp)
        clear HS HE
        go_wp2_with (go_at_call 179; refine (vmc1_is x0  _ _ (hide hp)).mono ?_; rintro e w2 ⟨rfl, hb2⟩)
        go_ret
        exact ⟨_, rfl, by rw [E.out]; simp, HB.out.trans (hb2.mono hz)⟩
    · have E : Hid (xs.any (fun x : Int => !inB x 0 1000) = false) := hide (by
        rw [List.any_eq_false]
        intro x hx
        obtain ⟨j, hj, rfl⟩ := List.getElem_of_mem hx
        have h3 := HJ.out j hj (by omega)
        exact fun q => absurd (h3.symm.trans q) (by decide))
      clear HJ
      go_wp2_with fail
      go_ret
      exact ⟨-1, rfl, by rw [E.out]; rfl, HB.out⟩
set_option maxRecDepth 100000 in
theorem vmc_is (A : Option Addr) (c : Nat) (xs : List Int)  (b : Bool) (w : World) (h : SlAt encI 1 w A xs) (hn : xs.length ≤ 1048576) (hb : Hid (xs.any (fun x : Int => !inB x 0 1000) = b)) :
    Calls Tryz.prog 178 #[.slice A xs.length c, .func (.func 179) #[] #[]] w fun e w' => e = .returned (.bool b) ∧ Below w.heap.size w w' := by
  have HI := hide (vmc_idx A c xs  w h hn)
  clear h
  go_enter Tryz.func178, Tryz.ntmps178
  go_wp2_with fail
  refine HI.out.mono ?_
  rintro e w1 ⟨r, rfl, hr, hb1⟩
  have HR := hide (hr.trans hb.out)
  have HB := hide hb1
  clear hr hb1 HI
  go_wp2_with fail
  go_ret
  exact ⟨ret_bool HR.out, HB.out⟩
theorem any_w {xs : List Int} (h : (xs.any fun x : Int => !inB x 0 1000) = false) : ∀ z, z < xs.length → 0 ≤ ig xs z ∧ ig xs z ≤ 1000 := fun z hz => by
  rw [List.any_eq_false] at h
  have := h xs[z] (List.getElem_mem hz)
  rw [ig_eq hz] at this
  exact inB_true (by simpa using this)
theorem any_w_bad {xs : List Int} (h : (xs.any fun x : Int => !inB x 0 1000) = true) : ¬ ∀ z, z < xs.length → 0 ≤ ig xs z ∧ ig xs z ≤ 1000 := fun q => by
  obtain ⟨x, hx, h1⟩ := List.any_eq_true.1 h
  obtain ⟨z, hz, rfl⟩ := List.getElem_of_mem hx
  rw [ig_eq hz, inB_mk (q z hz).1 (q z hz).2] at h1
  cases h1
theorem dc_row {zs : List Int} {ws : List (List Int)} {bs : List Int} {k : Nat} (hk : k < 5) (h : ¬ RowOK zs ws bs k) : dc (ModelOK zs ws bs) = false := dc_false fun q => h (q.row' k hk)
theorem row_step {zs : List Int} {ws : List (List Int)} {bs : List Int} {k : Nat} (h : Hid (∀ j, j < k → RowOK zs ws bs j)) (hk : RowOK zs ws bs k) : Hid (∀ j, j < k + 1 → RowOK zs ws bs j) := fun j hj => by
  by_cases e : j = k
  · subst e; exact hk
  · exact h.out j (by omega)
set_option maxRecDepth 100000 in
set_option maxHeartbeats 1000000 in
theorem implValidModel (Az Aw Ab : Option Addr) (cz cw cb : Nat) (zs : List Int) (ws : List (List Int)) (bs : List Int) (w : World) (h : MdAt w Az Aw Ab zs ws bs) (HS : Hid (MdSz zs ws bs)) :
    Calls Tryz.prog 151 #[.agg #[.slice Az zs.length cz, .slice Aw ws.length cw, .slice Ab bs.length cb]] w fun e w' => e = .returned (.bool (dc (ModelOK zs ws bs))) ∧ Below w.heap.size w w' := by
  have HP := hide (MpAt.new (cz := cz) (cw := cw) (cb := cb) h)
  have HB0 := hide (show Below w.heap.size w (w.alloc (.cells #[.slice Az zs.length cz, .slice Aw ws.length cw, .slice Ab bs.length cb] 27)) from (by repeat (first | with_reducible exact Below.refl _ _ | with_reducible assumption | (with_reducible refine Below.drew ?_) | (with_reducible refine below_drewN ?_ _) | ((with_reducible refine Below.alloc ?_ ?_ _); rotate_left; (focus (first | omega | (simp; omega) | simp))) | ((with_reducible refine Below.setCell ?_ ?_ _); rotate_left; (focus (first | omega | (simp; omega) | simp))) | (refine Below.trans ?_ (Below.mono (by assumption) (by first | omega | (simp; omega) | simp))))))
  have HZ := hide (HP.out.md.z)
  have hnz := HS.out.z
  clear h
  go_enter Tryz.func151, Tryz.ntmps151
  go_wp2_with fail
  refine (implareZones _ _ zs 32 _ HZ.out hnz).mono ?_
  rintro e w1 ⟨rfl, rfl⟩
  have hwz : w.heap.size < (w.alloc (.cells #[.slice Az zs.length cz, .slice Aw ws.length cw, .slice Ab bs.length cb] 27)).heap.size := by simp
  generalize w.alloc (.cells #[.slice Az zs.length cz, .slice Aw ws.length cw, .slice Ab bs.length cb] 27) = w1 at *
  have c0 := HP.out.c0
  have c1 := HP.out.c1
  have c2 := HP.out.c2
  cases hz : dc (ZonesOK zs 32)
  · have E := hide (dc_false (p := ModelOK zs ws bs) fun q => not_dc hz q.zones)
    go_wp2_with fail
    go_ret
    exact ⟨ret_bool E.out.symm, HB0.out⟩
  · have HZO := hide (of_dc hz)
    clear hz
    by_cases h5 : ws.length = 5
    · by_cases hb5 : bs.length = 5
      · have H5 := hide h5
        have HB5 := hide hb5
        rw [h5] at c1
        rw [hb5] at c2
        clear h5 hb5
        go_wp2_with fail
        go_loopw [24, 3, 4] (fun v _ _ wr => ∃ k : Nat, v = .int .i64 k ∧ k ≤ 5 ∧ Hid (∀ j, j < k → RowOK zs ws bs j) ∧ Hid (Below w1.heap.size w1 wr)) (fun v _ _ _ => 5 - (intOf v).toNat)
        case atStart => exact ⟨0, rfl, by omega, hide fun j hj => by omega, hide (Below.refl _ _)⟩
        case round =>
          obtain ⟨k, rfl, hk, HJ, HB⟩ := hrel
          have hsz := HB.out.size
          have HP2 := hide (HP.out.below HB.out)
          have d0 := HP2.out.c0
          have d2 := HP2.out.c2
          rw [HB5.out] at d2
          have hbp := HP2.out.lt
          by_cases hlt : k < 5
          · obtain ⟨b, o, A1, c1', rfl, hb, hck, hs⟩ := HP2.out.md.g.get (k := k) (by have := H5.out; omega)
            have HR := hide (show SlAt encI 1 wr A1 (wr_ ws k) from hs)
            have hrn := HS.out.row k
            have HBad := hide (fun h => dc_row (zs := zs) (ws := ws) (bs := bs) hlt h)
            by_cases hle : (wr_ ws k).length = zs.length
            · have h1 : 1 ≤ (wr_ ws k).length := by have := HZO.out.len1; omega
              have HLE := hide hle
              have hck2 : wr.cell? ⟨b, o + k, none⟩ = some (.slice A1 (wr_ ws k).length c1') := hck
              rw [hle] at hck2
              have hmx := slicesMax A1 c1' (wr_ ws k) wr hs hrn h1
              rw [hle] at hmx
              have HMX := hide hmx
              have hzl : (zs.length : Int) ≤ 8 := by have := HZO.out.len8; omega
              clear hck hs hle hmx h1
              go_wp2_with fail
              refine HMX.out.mono ?_
              rintro e w2 ⟨m, rfl, hm1, hm2, rfl⟩
              have HM := hide (And.intro hm1 hm2)
              clear hm1 hm2 HMX
              by_cases hm0 : m = 0
              · have E := hide (HBad.out fun q => by
                  obtain ⟨z, hz1, hz2⟩ := q.some
                  have := q.w z hz1
                  have := HM.out.2 z (by omega)
                  omega)
                have hm : (m == 0) = true := by simp [hm0]
                clear hm0
                go_wp2_with fail
                go_ret
                exact ⟨ret_bool E.out.symm, HB0.out.trans (HB.out.mono HB0.out.size)⟩
              · have hm : (m == 0) = false := by simpa using hm0
                have HM0 := hide hm0
                clear hm0
                cases hany : (wr_ ws k).any fun x : Int => !inB x 0 1000
                · have HA := hide hany
                  have hcon := vmc_is A1 c1' (wr_ ws k) false wr HR.out hrn HA
                  rw [HLE.out] at hcon
                  have HCON := hide hcon
                  clear hany hcon
                  go_wp2_with fail
                  refine HCON.out.mono ?_
                  rintro e w3 ⟨rfl, hb3⟩
                  have HP3 := hide (HP2.out.below hb3)
                  have HB3 := hide (HB.out.trans (hb3.mono hsz))
                  have e2 := HP3.out.c2
                  rw [HB5.out] at e2
                  obtain ⟨b9, o9, rfl, hb9, hc9⟩ := HP3.out.md.b.getA (by have := HB5.out; omega)
                  have hc9k := hc9 k (by have := HB5.out; omega)
                  clear hb3 HCON hc9 hck2 d0 d2
                  have HW : Hid (1 ≤ ig bs k ∧ ig bs k ≤ 1000000000 → RowOK zs ws bs k) := hide fun hbk => by
                    have a := any_w HA.out
                    obtain ⟨z, hz1, hz2⟩ := HM.out.1
                    rw [HLE.out] at a
                    exact ⟨HLE.out, a, ⟨z, by have := HLE.out; omega, by rw [hz2]; exact HM0.out⟩, hbk⟩
                  have HX : Hid (inB (ig bs k) 1 1000000000 = false → ¬ RowOK zs ws bs k) := hide fun hf q => by have := q.b; have := inB_false hf; omega
                  generalize ig bs k = y at *
                  cases hy : inB y 1 1000000000
                  · have E := hide (HBad.out (HX.out hy))
                    go_wp2_with (go_at_call 120; refine (implwithin_is _ _ _ _ (by assumption) _).mono ?_; rintro e w' ⟨rfl, rfl⟩)
                    go_ret
                    exact ⟨ret_bool E.out.symm, HB0.out.trans (HB3.out.mono HB0.out.size)⟩
                  · have HN := row_step HJ (HW.out (inB_true hy))
                    go_wp2_with (go_at_call 120; refine (implwithin_is _ _ _ _ (by assumption) _).mono ?_; rintro e w' ⟨rfl, rfl⟩)
                    go_roundw
                    case rel => exact ⟨k + 1, by go_num, by omega, HN, HB3⟩
                    case measure => simp [intOf]; omega
                · have HA := hide hany
                  have hcon := vmc_is A1 c1' (wr_ ws k) true wr HR.out hrn HA
                  rw [HLE.out] at hcon
                  have HCON := hide hcon
                  have E := hide (HBad.out fun q => any_w_bad hany fun z hz => q.w z (by have := HLE.out; omega))
                  clear hany hcon
                  go_wp2_with fail
                  refine HCON.out.mono ?_
                  rintro e w3 ⟨rfl, hb3⟩
                  have HB3 := hide (HB.out.trans (hb3.mono hsz))
                  clear hb3
                  go_wp2_with fail
                  go_ret
                  exact ⟨ret_bool E.out.symm, HB0.out.trans (HB3.out.mono HB0.out.size)⟩
            · have E := hide (HBad.out fun q => hle q.len)
              have hne : ((wr_ ws k).length == zs.length) = false := by simpa using hle
              have hck2 : wr.cell? ⟨b, o + k, none⟩ = some (.slice A1 (wr_ ws k).length c1') := hck
              have hneI : (((wr_ ws k).length : Int) != (zs.length : Int)) = true := by simp; omega
              clear hle hck
              go_wp2_with fail
              go_ret
              exact ⟨ret_bool E.out.symm, HB0.out.trans (HB.out.mono HB0.out.size)⟩
          · obtain rfl : k = 5 := by omega
            have E := hide (dc_true (p := ModelOK zs ws bs) (model_rows HZO.out H5.out HB5.out HJ.out))
            go_wp2_with fail
            go_ret
            exact ⟨ret_bool E.out.symm, HB0.out.trans (HB.out.mono HB0.out.size)⟩
      · have E := hide (dc_false (p := ModelOK zs ws bs) fun q => hb5 q.blen)
        have h5I : ((bs.length : Int) == 5) = false := by simp; omega
        rw [h5] at c1
        clear hb5
        go_wp2_with fail
        go_ret
        exact ⟨ret_bool E.out.symm, HB0.out⟩
    · have E := hide (dc_false (p := ModelOK zs ws bs) fun q => h5 q.wlen)
      have h5I : ((ws.length : Int) == 5) = false := by simp; omega
      clear h5
      go_wp2_with fail
      go_ret
      exact ⟨ret_bool E.out.symm, HB0.out⟩
/-- The sum of the first k numbers. -/
def sumTo (xs : List Int) : Nat → Int
  | 0 => 0
  | k + 1 => sumTo xs k + ig xs k
theorem sumTo_bd {xs : List Int} {c : Int} : ∀ k : Nat, (∀ j, j < k → 0 ≤ ig xs j ∧ ig xs j ≤ c) → 0 ≤ sumTo xs k ∧ sumTo xs k ≤ c * (k : Int)
  | 0, _ => by simp [sumTo]
  | k + 1, h => by
    have a := sumTo_bd k fun j hj => h j (by omega)
    have b := h k (by omega)
    unfold sumTo
    rw [Int.natCast_add, Int.mul_add]
    omega
theorem sumTo_zero {xs : List Int} : ∀ k : Nat, (∀ j, j < k → 0 ≤ ig xs j) → sumTo xs k = 0 → ∀ j, j < k → ig xs j = 0
  | 0, _, _ => fun j hj => by omega
  | k + 1, h, h0 => by
    have hp : ∀ m : Nat, m ≤ k + 1 → 0 ≤ sumTo xs m := by
      intro m
      induction m with
      | zero => intro _; simp [sumTo]
      | succ m ih => intro hm; have := ih (by omega); have := h m (by omega); unfold sumTo; omega
    have a := hp k (by omega)
    have b := h k (by omega)
    unfold sumTo at h0
    intro j hj
    by_cases e : j = k
    · subst e; omega
    · exact sumTo_zero k (fun j hj => h j (by omega)) (by omega) j (by omega)
set_option maxRecDepth 100000 in
set_option maxHeartbeats 1000000 in
theorem specl08Ok (bm : Nat) (Az Aw Ab : Option Addr) (cz cw cb : Nat) (zs : List Int) (ws : List (List Int)) (bs : List Int) (w : World) (h : MpAt w bm Az cz Aw cw Ab cb zs ws bs) (HS : Hid (MdSz zs ws bs)) :
    Calls Tryz.prog 186 #[.pointer (some ⟨bm, 0, none⟩)] w fun e w' => e = .returned (.bool (dc (ModelOK zs ws bs))) ∧ Below w.heap.size w w' := by
  have HP := hide h
  have c0 := h.c0
  have hnz := HS.out.z
  have HC := hide (specl08Zones Az cz zs w h.md.z hnz)
  clear h
  go_enter Tryz.func186, Tryz.ntmps186
  go_wp2_with fail
  refine HC.out.mono ?_
  rintro e w1 ⟨rfl, hb1⟩
  have HP1 := hide (HP.out.below hb1)
  have HB0 := hide hb1
  have c0 := HP1.out.c0
  have c1 := HP1.out.c1
  have c2 := HP1.out.c2
  clear hb1 HC HP
  cases hz : dc (ZonesOK zs 32)
  · have E := hide (dc_false (p := ModelOK zs ws bs) fun q => not_dc hz q.zones)
    go_wp2_with fail
    go_ret
    exact ⟨ret_bool E.out.symm, HB0.out⟩
  · have HZO := hide (of_dc hz)
    have hz8 := HZO.out.len8
    clear hz
    by_cases h5 : ws.length = 5
    · by_cases hb5 : bs.length = 5
      · have H5 := hide h5
        have HB5 := hide hb5
        rw [h5] at c1
        rw [hb5] at c2
        clear h5 hb5
        go_wp2_with fail
        go_loopw [3, 4, 5] (fun v _ _ wr => ∃ k : Nat, v = .int .i64 k ∧ k ≤ 5 ∧ Hid (∀ j, j < k → RowOK zs ws bs j) ∧ Hid (Below w1.heap.size w1 wr)) (fun v _ _ _ => 5 - (intOf v).toNat)
        case atStart => exact ⟨0, rfl, by omega, hide fun j hj => by omega, hide (Below.refl _ _)⟩
        case round =>
          obtain ⟨k, rfl, hk, HJ, HB⟩ := hrel
          have hsz := HB.out.size
          have HP2 := hide (HP1.out.below HB.out)
          have d0 := HP2.out.c0
          have d1 := HP2.out.c1
          have d2 := HP2.out.c2
          rw [HB5.out] at d2
          rw [H5.out] at d1
          have hbp := HP2.out.lt
          by_cases hlt : k < 5
          · have hk0 : (0 : Int) ≤ (k : Int) := by omega
            have hk5 : (k : Int) < 5 := by omega
            obtain ⟨b, o, A1, c1', rfl, hb, hck, hs⟩ := HP2.out.md.g.get (k := k) (by have := H5.out; omega)
            have HR := hide (show SlAt encI 1 wr A1 (wr_ ws k) from hs)
            have hrn := HS.out.row k
            have hck2 : wr.cell? ⟨b, o + k, none⟩ = some (.slice A1 (wr_ ws k).length c1') := hck
            have HBad := hide (fun h => dc_row (zs := zs) (ws := ws) (bs := bs) hlt h)
            obtain ⟨b9, o9, rfl, hb9, hc9⟩ := HP2.out.md.b.getA (by have := HB5.out; omega)
            have hc9k := hc9 k (by have := HB5.out; omega)
            have HBK := hide (show ∃ y, y = ig bs k from ⟨_, rfl⟩)
            obtain ⟨y, hy⟩ := HBK.out
            rw [← hy] at hc9k
            have HY := hide hy
            clear hc9 hck hs HBK hy
            cases hyb : inB y 1 1000000000
            · have E := hide (HBad.out fun q => by have := q.b; rw [← HY.out] at this; have := inB_false hyb; omega)
              go_wp2_with fail
              refine wp_region_kept (by kernel_rfl) (by kernel_rfl) ?_
              intro gc gf gz
              repeat (go_big_quiet_step ((go_at_call 109; exact Calls.kept_same (specl00In_is _ _ _ _ (by assumption) _))))
              refine wpQuiet_nil ?_
              intro w2 hw'
              obtain ⟨⟨_, hb2⟩, rfl⟩ := hw'
              clear gc gf gz
              try dsimp only
              have fs2 := hb2.size
              try simp at fs2 hb2
              go_wp2_with fail
              go_ret
              exact ⟨ret_bool E.out.symm, HB0.out.trans ((HB.out.trans (hb2.mono hsz)).mono HB0.out.size)⟩
            · have HYB := hide (inB_true hyb)
              by_cases hle : (wr_ ws k).length = zs.length
              · have HLE := hide hle
                have hneI : (((wr_ ws k).length : Int) != (zs.length : Int)) = false := by rw [hle]; simp
                have hlen8 : (wr_ ws k).length ≤ 8 := by omega
                clear hle
                go_wp2_with fail
                refine wp_region_kept (by kernel_rfl) (by kernel_rfl) ?_
                intro gc gf gz
                repeat (go_big_quiet_step ((go_at_call 109; exact Calls.kept_same (specl00In_is _ _ _ _ (by assumption) _))))
                refine wpQuiet_nil ?_
                intro w2 hw'
                obtain ⟨⟨_, hb2⟩, rfl⟩ := hw'
                clear gc gf gz
                try dsimp only
                have fs2 := hb2.size
                try simp at fs2 hb2
                have HP3 := hide (HP2.out.below hb2)
                have HR3 := hide (HR.out.below hb2)
                have HB3 := hide (HB.out.trans (hb2.mono hsz))
                have hck3 := (hb2.cell (p := ⟨b, o + k, none⟩) hb).trans hck2
                have hb3 : b < w2.heap.size := Nat.lt_of_lt_of_le hb hb2.size
                clear hb2 fs2 d0 d1 d2 hck2 hc9k HP2 HB HR hbp hb hb9 hyb HP1
                go_wp2_with fail
                obtain ⟨w3, rfl⟩ : ∃ w3, w3 = w2 := ⟨_, rfl⟩
                have d0 := HP3.out.c0
                have d1 := HP3.out.c1
                rw [H5.out] at d1
                go_loopw [5, 4] (fun v s wr => ∃ z : Nat, v = .int .i64 z ∧ s = .int .i64 (sumTo (wr_ ws k) z) ∧ z ≤ zs.length ∧ Hid (∀ j, j < z → 0 ≤ ig (wr_ ws k) j ∧ ig (wr_ ws k) j ≤ 1000) ∧ w3 = wr) (fun v _ _ => zs.length - (intOf v).toNat)
                case atStart => exact ⟨0, rfl, rfl, by omega, hide fun j hj => by omega, rfl⟩
                case round =>
                  obtain ⟨z, rfl, rfl, hz, HW, rfl⟩ := hrel
                  by_cases hzl : z < zs.length
                  · obtain ⟨b4, o4, rfl, hb4, hc4⟩ := HR3.out.getA (by have := HLE.out; omega)
                    have hc4z := hc4 z (by have := HLE.out; omega)
                    have hz2 : z < (wr_ ws k).length := by have := HLE.out; omega
                    have hsb := sumTo_bd (c := 1000) z HW.out
                    have E2 := hide (show sumTo (wr_ ws k) z + ig (wr_ ws k) z = sumTo (wr_ ws k) (z + 1) from rfl)
                    have HST := hide (fun h : inB (ig (wr_ ws k) z) 0 1000 = true => show ∀ j, j < z + 1 → 0 ≤ ig (wr_ ws k) j ∧ ig (wr_ ws k) j ≤ 1000 from fun j hj => by
                      by_cases e : j = z
                      · subst e; exact inB_true h
                      · exact HW.out j (by omega))
                    have HF := hide (fun h : inB (ig (wr_ ws k) z) 0 1000 = false => HBad.out fun q => by have := q.w z hzl; have := inB_false h; omega)
                    clear hc4
                    generalize sumTo (wr_ ws k) z = s0 at *
                    generalize hx : ig (wr_ ws k) z = x at *
                    clear hx
                    cases hv : inB x 0 1000
                    · have E := hide (HF.out hv)
                      go_wp2_with (go_at_call 109; refine (specl00In_is _ _ _ _ (by assumption) _).mono ?_; rintro e w' ⟨rfl, rfl⟩)
                      go_ret
                      exact ⟨ret_bool E.out.symm, HB0.out.trans (HB3.out.mono HB0.out.size)⟩
                    · have HN := hide (HST.out hv)
                      have hxb := inB_true hv
                      go_wp2_with (go_at_call 109; refine (specl00In_is _ _ _ _ (by assumption) _).mono ?_; rintro e w' ⟨rfl, rfl⟩)
                      go_roundw
                      case rel => exact ⟨z + 1, by go_num, by rw [← E2.out], by omega, HN, trivial⟩
                      case measure => simp [intOf]; omega
                  · obtain rfl : z = zs.length := by omega
                    have HSM : Hid (∃ s0, s0 = sumTo (wr_ ws k) zs.length) := hide ⟨_, rfl⟩
                    obtain ⟨s0, hs0⟩ := HSM.out
                    rw [← hs0]
                    have HSS := hide hs0
                    clear hs0 HSM
                    by_cases h0 : s0 = 0
                    · have E := hide (HBad.out fun q => by
                        obtain ⟨z, hz1, hz2⟩ := q.some
                        exact hz2 (sumTo_zero zs.length (fun j hj => (HW.out j hj).1) (by rw [← HSS.out]; exact h0) z hz1))
                      subst h0
                      go_wp2_with fail
                      go_ret
                      exact ⟨ret_bool E.out.symm, HB0.out.trans (HB3.out.mono HB0.out.size)⟩
                    · have h00 : (s0 == 0) = false := by simpa using h0
                      have HN := row_step HJ ⟨HLE.out, HW.out, by
                        rcases Classical.em (∃ z, z < zs.length ∧ ig (wr_ ws k) z ≠ 0) with q | q
                        · exact q
                        · exfalso
                          refine h0 ?_
                          rw [HSS.out]
                          have hall : ∀ j, j < zs.length → ig (wr_ ws k) j = 0 := fun j hj => by
                            rcases Classical.em (ig (wr_ ws k) j = 0) with e | e
                            · exact e
                            · exact absurd ⟨j, hj, e⟩ q
                          have hs : ∀ m : Nat, m ≤ zs.length → sumTo (wr_ ws k) m = 0 := by
                            intro m
                            induction m with
                            | zero => intro _; rfl
                            | succ m ih => intro hm; unfold sumTo; rw [ih (by omega), hall m (by omega)]; rfl
                          exact hs _ (Nat.le_refl _), by rw [← HY.out]; exact HYB.out⟩
                      clear h0
                      go_wp2_with fail
                      go_roundw
                      case rel => exact ⟨k + 1, by go_num, by omega, HN, HB3⟩
                      case measure => simp [intOf]; omega
              · have E := hide (HBad.out fun q => hle q.len)
                have hneI : (((wr_ ws k).length : Int) != (zs.length : Int)) = true := by simp; omega
                clear hle
                go_wp2_with fail
                refine wp_region_kept (by kernel_rfl) (by kernel_rfl) ?_
                intro gc gf gz
                repeat (go_big_quiet_step ((go_at_call 109; exact Calls.kept_same (specl00In_is _ _ _ _ (by assumption) _))))
                refine wpQuiet_nil ?_
                intro w2 hw'
                obtain ⟨⟨_, hb2⟩, rfl⟩ := hw'
                clear gc gf gz
                try dsimp only
                have fs2 := hb2.size
                try simp at fs2 hb2
                go_wp2_with fail
                go_ret
                exact ⟨ret_bool E.out.symm, HB0.out.trans ((HB.out.trans (hb2.mono hsz)).mono HB0.out.size)⟩
          · obtain rfl : k = 5 := by omega
            have E := hide (dc_true (p := ModelOK zs ws bs) (model_rows HZO.out H5.out HB5.out HJ.out))
            go_wp2_with fail
            go_ret
            exact ⟨ret_bool E.out.symm, HB0.out.trans (HB.out.mono HB0.out.size)⟩
      · have E := hide (dc_false (p := ModelOK zs ws bs) fun q => hb5 q.blen)
        have h5I : ((bs.length : Int) == 5) = false := by simp; omega
        rw [h5] at c1
        clear hb5
        go_wp2_with fail
        go_ret
        exact ⟨ret_bool E.out.symm, HB0.out⟩
    · have E := hide (dc_false (p := ModelOK zs ws bs) fun q => h5 q.wlen)
      have h5I : ((ws.length : Int) == 5) = false := by simp; omega
      clear h5
      go_wp2_with fail
      go_ret
      exact ⟨ret_bool E.out.symm, HB0.out⟩
end Go.Proofs.YtnefgafmnpblpaaGreat
