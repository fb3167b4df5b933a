/- The program's search for charges: what it leaves is what the plain search says. -/
import Derived.Test.YtjklhacffdhgaaaCh
import Derived.Test.YtjklhacffdhgaaaRowI
import Derived.Test.YtjklhacffdhgaaaSrc2
import Derived.Deep.DeepCutAuto
namespace Go.Proofs.Ytjklhacffdhgaaa
open Go.RowKit

/-- What is written into a block known whole. -/
theorem heap_set {w : World} {b j : Nat} {vs : Array Value} {T : TypeId} (v : Value) (h : w.heap[b]? = some (.cells vs T (0, 0))) : (w.setCell ⟨b, j, none⟩ v).heap[b]? = some (.cells (vs.setIfInBounds j v) T (0, 0)) := by
  simp [World.setCell, Array.getElem?_modify, h]
theorem own_far {α : Type} {enc : α → List Value} {sz : Nat} {T : TypeId} {w w' : World} {b : Nat} {v : Value} {xs : List α} (h : Own enc sz T w (b + 1) v xs) (hg : w.grownBy w' (some b)) : Own enc sz T w' (b + 1) v xs := by
  refine h.kept hg ?_
  cases e : v.ownBlock with
  | none => exact .inl rfl
  | some g => exact .inr fun q => by injection q with q; have := (h.lt g e).1; omega
/-- The searching struct in block b: A, n, c the ingots' slice; d0 .. d4 the demand; s what is known. -/
structure ChI (w0 : World) (b : Nat) (A : Option Addr) (n c : Nat) (d0 d1 d2 d3 d4 : Int) (first : Bool) (w : World) (s : Ch.S) : Prop where
  st : ∃ bv bc, w.heap[b]? = some (.cells #[.int .i64 s.left, .bool s.spent, .slice A n c, .int .i64 d0, .int .i64 d1, .int .i64 d2, .int .i64 d3, .int .i64 d4, .bool first, .int .i64 s.count, .slice bv s.best.length bc, .int .i64 s.least] 134 (0, 0)) ∧ OwnI w (b + 1) (.slice bv s.best.length bc) s.best
  inv : Ch.Inv s
  bel : Below w0.heap.size w0 w
  hb : w0.heap.size ≤ b
theorem ChI.lt {w0 : World} {b : Nat} {A : Option Addr} {n c : Nat} {d0 d1 d2 d3 d4 : Int} {first : Bool} {w : World} {s : Ch.S} (h : ChI w0 b A n c d0 d1 d2 d3 d4 first w s) : b < w.heap.size := by
  obtain ⟨bv, bc, h1, _⟩ := h.st
  exact heap_lt h1
theorem ChI.below {w0 : World} {b : Nat} {A : Option Addr} {n c : Nat} {d0 d1 d2 d3 d4 : Int} {first : Bool} {w w' : World} {s : Ch.S} (h : ChI w0 b A n c d0 d1 d2 d3 d4 first w s) (hb : Below w.heap.size w w') : ChI w0 b A n c d0 d1 d2 d3 d4 first w' s := by
  have hl := h.lt
  obtain ⟨bv, bc, h1, h2⟩ := h.st
  exact ⟨⟨bv, bc, (hb.block b hl).trans h1, h2.below hb⟩, h.inv, h.bel.trans (hb.mono h.bel.size), h.hb⟩
/-- What is to be chosen next behind a choice. -/
def NextIs (ch : List Int) (k0 : Nat) : Prop := (ch = [] ∧ k0 = 0) ∨ ∃ l, ch = l ++ [(k0 : Int) - 1] ∧ 1 ≤ k0
theorem NextIs.snoc (ch : List Int) (k : Nat) : NextIs (ch ++ [(k : Int)]) (k + 1) := .inr ⟨ch, by simp, by omega⟩
theorem sizeIngot (A : Option Addr) (n c : Nat) (w : World) : Calls Try.prog 158 #[.slice A n c] w fun e w' => e = .returned (.int .i64 n) ∧ w = w' := by
  go_enter Try.func158, Try.ntmps158
  go_wp2
  go_ret
  exact ⟨rfl, rfl⟩
set_option maxRecDepth 100000 in
set_option maxHeartbeats 4000000 in
theorem search_any (w0 : World) (b : Nat) (A : Option Addr) (c : Nat) (xs : List IngotR) (d0 d1 d2 d3 d4 : Int) (first : Bool) (HX : Hid (SlAt encIngot 5 w0 A xs)) (HV : Hid (∀ x ∈ xs, vIngotX x = true)) (hn : xs.length ≤ 16) (hd : vDem d0 d1 d2 d3 d4 = true) :
    ∀ (f : Nat) (ch : List Int) (mass : Int) (k0 : Nat) (s : Ch.S) (w : World) (A2 : Option Addr) (c2 : Nat), xs.length < f + k0 → Hid (ChI w0 b A xs.length c d0 d1 d2 d3 d4 first w s) → Hid (OwnI w (b + 1) (.slice A2 ch.length c2) ch) → Hid (GoodCh xs.length ch) → ch.length ≤ k0 → k0 ≤ xs.length → Hid (NextIs ch k0) → Hid (mass = sumB fM xs ch) → mass ≤ d1 →
      Calls Try.prog 150 #[.pointer (some ⟨b, 0, none⟩), .slice A2 ch.length c2, .int .i64 mass] w fun e w' => e = .returned (.tuple #[]) ∧ ChI w0 b A xs.length c d0 d1 d2 d3 d4 first w' (Ch.srch first (fitC d0 d1 d2 d3 d4 xs) (xs.map fM) d1 f ch mass k0 s) ∧ w.grownBy w' (some b) := by
  have HD := hide hd
  obtain ⟨⟨a0, a1⟩, a2, ⟨a3, a4⟩, a5, a6, a7⟩ := vDem_true hd
  clear hd
  intro f
  induction f with
  | zero => intro ch mass k0 s w A2 c2 hf; omega
  | succ f ih =>
    intro ch mass k0 s w A2 c2 hf HS HO HG hck hk0 HN HM hmd
    have hbl : b < w.heap.size := by
      obtain ⟨bv, bc, h1, _⟩ := HS.out.st
      exact (Array.getElem?_eq_some_iff.1 h1).1
    cases hen : Ch.ended first s
    · obtain ⟨bv, bc, h1, ho⟩ := HS.out.st
      obtain ⟨left, spent, count, best, least⟩ := s
      simp only at h1 ho
      obtain rfl : spent = false := by
        unfold Ch.ended at hen
        cases spent
        · rfl
        · simp at hen
      have hfc : (first && decide (0 < count)) = false := by unfold Ch.ended at hen; simpa using hen
      have HE := hide hen
      have g0 : w.cell? ⟨b, 0, none⟩ = some (.int .i64 left) := by simp [World.cell?, h1]
      have g1 : w.cell? ⟨b, 1, none⟩ = some (.bool false) := by simp [World.cell?, h1]
      have g8 : w.cell? ⟨b, 8, none⟩ = some (.bool first) := by simp [World.cell?, h1]
      have g9 : w.cell? ⟨b, 9, none⟩ = some (.int .i64 count) := by simp [World.cell?, h1]
      have f0 : w.frozen? ⟨b, 0, none⟩ = false := by simp [World.frozen?, h1]
      have f1 : w.frozen? ⟨b, 1, none⟩ = false := by simp [World.frozen?, h1]
      by_cases hl0 : left = 0
      · subst hl0
        have hsp := Ch.srch_spent (fit := fitC d0 d1 d2 d3 d4 xs) (ms := xs.map fM) (most := d1) (f := f) (ch := ch) (mass := mass) (k0 := k0) hen rfl
        have HSP := hide hsp
        have hn0 := node_none b false w g0 g1 f1
        have HN0 := hide hn0
        have GX := hide (grown_set (grown_refl w (some b)) 1 (.bool true))
        have HX2 := hide (heap_set (j := 1) (.bool true) h1)
        have HOB := hide ho
        clear hsp hn0 h1 ho hen ih HX HV HD HG HN HM HO
        cases first
        · go_enter Try.func150, Try.ntmps150
          go_wp2_with (go_at_call 165; refine HN0.out.mono ?_; rintro e w2 ⟨rfl, rfl⟩)
          ((try simp only [Exit.inBlock, Exit.then]); refine bodyPost_ret (results_none rfl _ _ _) rfl ?_)
          exact ⟨rfl, by rw [HSP.out]; exact ⟨⟨bv, bc, HX2.out, own_far HOB.out GX.out⟩, HS.out.inv, HS.out.bel.setCell HS.out.hb _, HS.out.hb⟩, GX.out⟩
        · have hc : decide (0 < count) = false := by simpa using hfc
          go_enter Try.func150, Try.ntmps150
          go_wp2_with (go_at_call 165; refine HN0.out.mono ?_; rintro e w2 ⟨rfl, rfl⟩)
          ((try simp only [Exit.inBlock, Exit.then]); refine bodyPost_ret (results_none rfl _ _ _) rfl ?_)
          exact ⟨rfl, by rw [HSP.out]; exact ⟨⟨bv, bc, HX2.out, own_far HOB.out GX.out⟩, HS.out.inv, HS.out.bel.setCell HS.out.hb _, HS.out.hb⟩, GX.out⟩
      · obtain ⟨l0, l1, l2⟩ := HS.out.inv
        simp only at l0 l1 l2
        have HL := hide hl0
        have HH := hide h1
        have HOB := hide ho
        clear hen h1 ho hl0
        go_enter Try.func150, Try.ntmps150
        go_upto_region 0 with fail
        go_cut [33] (fun s33 wx => s33 = .bool false ∧ wx = w.setCell ⟨b, 0, none⟩ (.int .i64 (left - 1)))
        case first =>
          have hn1 := node_some b left w HL.out l0 (by omega) g0 f0
          have HN1 := hide hn1
          clear hn1
          cases first
          · go_wp2_with (go_at_call 165; refine HN1.out.mono ?_; rintro e w2 ⟨rfl, rfl⟩)
            go_meet
            exact ⟨rfl, rfl⟩
          · have hc : decide (0 < count) = false := by simpa using hfc
            go_wp2_with (go_at_call 165; refine HN1.out.mono ?_; rintro e w2 ⟨rfl, rfl⟩)
            go_meet
            exact ⟨rfl, rfl⟩
        case rest =>
          obtain ⟨rfl, rfl⟩ := hcut
          have hl1 := HL.out
          have G1 := hide (grown_set (grown_refl w (some b)) 0 (.int .i64 (left - 1)))
          have hS1 : ChI w0 b A xs.length c d0 d1 d2 d3 d4 first (w.setCell ⟨b, 0, none⟩ (.int .i64 (left - 1))) { left := left - 1, spent := false, count := count, best := best, least := least } :=
            ⟨⟨bv, bc, heap_set _ HH.out, own_far HOB.out G1.out⟩, ⟨by simp only; omega, by simp only; omega, by simp only; omega⟩, HS.out.bel.setCell HS.out.hb _, HS.out.hb⟩
          have HS1 := hide hS1
          have HO1 := hide (own_far HO.out G1.out)
          have hOB1 := hide (own_far HOB.out G1.out)
          have h1 := heap_set (j := 0) (.int .i64 (left - 1)) HH.out
          have HH1 := hide h1
          have hbl1 : b < (w.setCell ⟨b, 0, none⟩ (.int .i64 (left - 1))).heap.size := HS1.out.lt
          clear hS1 g0 g1 g8 g9 f0 f1 hfc HS HO HH HOB
          generalize w.setCell ⟨b, 0, none⟩ (.int .i64 (left - 1)) = w1 at *
          have hz1 := HS1.out.bel.size
          have g2 : w1.cell? ⟨b, 2, none⟩ = some (.slice A xs.length c) := by simp [World.cell?, h1]
          have g3 : w1.cell? ⟨b, 3, none⟩ = some (.int .i64 d0) := by simp [World.cell?, h1]
          have g4 : w1.cell? ⟨b, 4, none⟩ = some (.int .i64 d1) := by simp [World.cell?, h1]
          have g5 : w1.cell? ⟨b, 5, none⟩ = some (.int .i64 d2) := by simp [World.cell?, h1]
          have g6 : w1.cell? ⟨b, 6, none⟩ = some (.int .i64 d3) := by simp [World.cell?, h1]
          have g7 : w1.cell? ⟨b, 7, none⟩ = some (.int .i64 d4) := by simp [World.cell?, h1]
          have hck16 : ch.length ≤ 16 := by omega
          clear h1
          go_wp2_with fail
          have hfit := fun u : Kept w1 => implfits d0 d1 d2 d3 d4 A A2 c c2 xs ch u.w' (HX.out.below (HS1.out.bel.trans (u.h.mono hz1))) ((Own.at_ (enc := encI) (sz := 1) (fun _ => rfl) HO1.out).below u.h) HV.out HG.out hck16 HD.out
          have HFIT := hide hfit
          clear hfit
          refine wp_region_kept (by kernel_rfl) (by kernel_rfl) ?_
          intro gc gf gz
          repeat (go_big_quiet_step ((go_at_call 92; exact Calls.kept (HFIT.out _))))
          refine wpQuiet_nil ?_
          intro w2 hw'
          obtain ⟨⟨_, hb2⟩, rfl⟩ := hw'
          clear gc gf gz
          try dsimp only
          have fs2 := hb2.size
          try simp at fs2 hb2
          have HS2 := hide (HS1.out.below hb2)
          have HO2 := hide (HO1.out.below hb2)
          have HH2 := hide ((hb2.block b hbl1).trans HH1.out)
          have hOB2 := hide (hOB1.out.below hb2)
          have G2 := hide (grown_trans G1.out (grown_of_below hb2 (some b)))
          clear HFIT HS1 HO1 HH1 hOB1 G1 g2 g3 g4 g5 g6 g7 hz1 hb2 fs2 hbl1
          go_upto_if 43 with fail
          go_cut [] (fun wx => Hid (ChI w0 b A xs.length c d0 d1 d2 d3 d4 first wx (Ch.look (fitC d0 d1 d2 d3 d4 xs ch) ch mass { left := left - 1, spent := false, count := count, best := best, least := least })) ∧ Hid (w2.grownBy wx (some b)))
          case first =>
            cases hfit : fitC d0 d1 d2 d3 d4 xs ch
            · go_wp2_with fail
              go_meet
              exact ⟨hide (by unfold Ch.look; rw [hfit]; exact HS2.out), hide (grown_refl _ _)⟩
            · have h2 := HH2.out
              have g9 : w2.cell? ⟨b, 9, none⟩ = some (.int .i64 count) := by simp [World.cell?, h2]
              have g10 : w2.cell? ⟨b, 10, none⟩ = some (.slice bv best.length bc) := by simp [World.cell?, h2]
              have g11 : w2.cell? ⟨b, 11, none⟩ = some (.int .i64 least) := by simp [World.cell?, h2]
              have f9 : w2.frozen? ⟨b, 9, none⟩ = false := by simp [World.frozen?, h2]
              have f10 : w2.frozen? ⟨b, 10, none⟩ = false := by simp [World.frozen?, h2]
              have f11 : w2.frozen? ⟨b, 11, none⟩ = false := by simp [World.frozen?, h2]
              clear h2
              have HFX := hide hfit
              by_cases hc0 : count = 0
              · subst hc0
                have HLK : Hid (Ch.look (fitC d0 d1 d2 d3 d4 xs ch) ch mass { left := left - 1, spent := false, count := 0, best := best, least := least } = { left := left - 1, spent := false, count := 0 + 1, best := ch, least := mass }) := hide (by unfold Ch.look Ch.better; rw [HFX.out]; simp)
                have GX := hide (grown_set (grown_set (grown_set (grown_refl w2 (some b)) 10 (.slice A2 ch.length c2)) 11 (.int .i64 mass)) 9 (.int .i64 (0 + 1)))
                have HX2 := hide (heap_set (j := 9) (.int .i64 (0 + 1)) (heap_set (j := 11) (.int .i64 mass) (heap_set (j := 10) (.slice A2 ch.length c2) HH2.out)))
                have INV : Hid (Ch.Inv { left := left - 1, spent := false, count := 0 + 1, best := ch, least := mass }) := hide ⟨by simp only; omega, by simp only; omega, by simp only; omega⟩
                have BEL := hide (((HS2.out.bel.setCell HS2.out.hb (p := ⟨b, 10, none⟩) (.slice A2 ch.length c2)).setCell HS2.out.hb (p := ⟨b, 11, none⟩) (.int .i64 mass)).setCell HS2.out.hb (p := ⟨b, 9, none⟩) (.int .i64 (0 + 1)))
                clear hfit
                go_wp2_with fail
                go_meet
                exact ⟨hide (by rw [HLK.out]; exact ⟨⟨A2, c2, HX2.out, own_far HO2.out GX.out⟩, INV.out, BEL.out, HS2.out.hb⟩), GX⟩
              · have hc1 : (count == 0) = false := by simpa using hc0
                have HC0 := hide hc0
                clear hc0
                by_cases hml : mass < least
                · have HM2 := hide hml
                  have HLK : Hid (Ch.look (fitC d0 d1 d2 d3 d4 xs ch) ch mass { left := left - 1, spent := false, count := count, best := best, least := least } = { left := left - 1, spent := false, count := count + 1, best := ch, least := mass }) := hide (by unfold Ch.look Ch.better; rw [HFX.out]; simp [HM2.out])
                  have GX := hide (grown_set (grown_set (grown_set (grown_refl w2 (some b)) 10 (.slice A2 ch.length c2)) 11 (.int .i64 mass)) 9 (.int .i64 (count + 1)))
                  have HX2 := hide (heap_set (j := 9) (.int .i64 (count + 1)) (heap_set (j := 11) (.int .i64 mass) (heap_set (j := 10) (.slice A2 ch.length c2) HH2.out)))
                  have INV : Hid (Ch.Inv { left := left - 1, spent := false, count := count + 1, best := ch, least := mass }) := hide ⟨by simp only; omega, by simp only; omega, by simp only; omega⟩
                  have BEL := hide (((HS2.out.bel.setCell HS2.out.hb (p := ⟨b, 10, none⟩) (.slice A2 ch.length c2)).setCell HS2.out.hb (p := ⟨b, 11, none⟩) (.int .i64 mass)).setCell HS2.out.hb (p := ⟨b, 9, none⟩) (.int .i64 (count + 1)))
                  clear hfit
                  go_wp2_with fail
                  go_meet
                  exact ⟨hide (by rw [HLK.out]; exact ⟨⟨A2, c2, HX2.out, own_far HO2.out GX.out⟩, INV.out, BEL.out, HS2.out.hb⟩), GX⟩
                · have hml2 : least ≤ mass := by omega
                  have HLK : Hid (Ch.look (fitC d0 d1 d2 d3 d4 xs ch) ch mass { left := left - 1, spent := false, count := count, best := best, least := least } = { left := left - 1, spent := false, count := count + 1, best := best, least := least }) := hide (by unfold Ch.look Ch.better; rw [HFX.out]; simp [HC0.out]; omega)
                  have GX := hide (grown_set (grown_refl w2 (some b)) 9 (.int .i64 (count + 1)))
                  have HX2 := hide (heap_set (j := 9) (.int .i64 (count + 1)) HH2.out)
                  have INV : Hid (Ch.Inv { left := left - 1, spent := false, count := count + 1, best := best, least := least }) := hide ⟨by simp only; omega, by simp only; omega, by simp only; omega⟩
                  have BEL := hide (HS2.out.bel.setCell HS2.out.hb (p := ⟨b, 9, none⟩) (.int .i64 (count + 1)))
                  clear hfit
                  go_wp2_with fail
                  go_meet
                  exact ⟨hide (by rw [HLK.out]; exact ⟨⟨bv, bc, HX2.out, own_far hOB2.out GX.out⟩, INV.out, BEL.out, HS2.out.hb⟩), GX⟩
          case rest =>
            obtain ⟨w3, rfl⟩ : ∃ w3, w3 = wc := ⟨_, rfl⟩
            obtain ⟨HS3, G3⟩ := hcut
            have HO3 := hide (own_far HO2.out G3.out)
            have GW := hide (grown_trans G2.out G3.out)
            clear HS2 HO2 hOB2 HH2 G2 G3
            generalize hs3 : Ch.look (fitC d0 d1 d2 d3 d4 xs ch) ch mass { left := left - 1, spent := false, count := count, best := best, least := least } = s3 at HS3
            have HFIN := hide (show Ch.srch first (fitC d0 d1 d2 d3 d4 xs) (xs.map fM) d1 (f + 1) ch mass k0 { left := left, spent := false, count := count, best := best, least := least } = Ch.rounds (Ch.step first (fitC d0 d1 d2 d3 d4 xs) (xs.map fM) d1 f ch mass) (xs.length - k0) k0 s3 from by
              rw [Ch.srch_goes HE.out (by simpa using HL.out), List.length_map, ← hs3])
            clear hs3 HE HL
            go_upto_if 74 with fail
            go_cut [6] (fun s6 wx => s6 = .int .i64 k0 ∧ wx = w3)
            case first =>
              rcases HN.out with ⟨rfl, rfl⟩ | ⟨l, rfl, hk1⟩
              · go_wp2_with fail
                go_meet
                exact ⟨rfl, rfl⟩
              · obtain ⟨bq, oq, rfl, hbq, hc⟩ := (Own.at_ (enc := encI) (sz := 1) (fun _ => rfl) HO3.out) l.length (by simp)
                have hc0 := hc 0 _ rfl
                simp at hc0
                clear hc
                have hpos : 0 < (l ++ [(k0 : Int) - 1]).length := by simp
                have hll : l.length ≤ 16 := by simp at hck; omega
                go_wp2_with fail
                go_meet
                exact ⟨by go_num, rfl⟩
            case rest =>
              obtain ⟨rfl, rfl⟩ := hcut
              go_wp2_with fail
              clear HN
              go_loopw [7] (fun v wr => ∃ (k : Nat) (s' : Ch.S), v = .int .i64 k ∧ k0 ≤ k ∧ k ≤ xs.length ∧ Hid (ChI w0 b A xs.length c d0 d1 d2 d3 d4 first wr s') ∧ Hid (w.grownBy wr (some b)) ∧ Hid (OwnI wr (b + 1) (.slice A2 ch.length c2) ch) ∧ Hid (Ch.rounds (Ch.step first (fitC d0 d1 d2 d3 d4 xs) (xs.map fM) d1 f ch mass) (xs.length - k) k s' = Ch.srch first (fitC d0 d1 d2 d3 d4 xs) (xs.map fM) d1 (f + 1) ch mass k0 { left := left, spent := false, count := count, best := best, least := least })) (fun v _ => xs.length - (intOf v).toNat)
              case atStart => exact ⟨k0, s3, rfl, Nat.le_refl _, hk0, HS3, GW, HO3, hide HFIN.out.symm⟩
              case round =>
                clear HS3 GW HO3 HFIN
                obtain ⟨k, s', rfl, hk, hkn, HS, GW, HO, HF⟩ := hrel
                have hbr := HS.out.lt
                obtain ⟨bv, bc, h1, _⟩ := HS.out.st
                have g2 : wr.cell? ⟨b, 2, none⟩ = some (.slice A xs.length c) := by simp [World.cell?, h1]
                have g4 : wr.cell? ⟨b, 4, none⟩ = some (.int .i64 d1) := by simp [World.cell?, h1]
                clear h1
                by_cases hlt : k < xs.length
                · obtain ⟨bq, oq, rfl, hbq, hc⟩ := (HX.out.below HS.out.bel) k hlt
                  have hc1 := hc 1 _ rfl
                  have hvk := (vIngot_true (HV.out xs[k] (List.getElem_mem hlt))).1
                  have hms : (xs.map fM).getD k 0 = xs[k].mass := by rw [List.getD_eq_getElem?_getD, List.getElem?_map, List.getElem?_eq_getElem hlt]; rfl
                  have hpk : pickI xs (k : Int) = xs[k] := pickI_get hlt rfl
                  have hr := Ch.rounds_more (stp := Ch.step first (fitC d0 d1 d2 d3 d4 xs) (xs.map fM) d1 f ch mass) (s := s') hlt
                  have hm0 := sums_bd (ch := ch) HV.out HG.out (by omega)
                  rw [← HM.out] at hm0
                  have hsn : sumB fM xs (ch ++ [(k : Int)]) = mass + xs[k].mass := by
                    have q := sumB_snoc fM xs ch (k : Int)
                    rw [hpk, ← HM.out] at q
                    exact q
                  generalize xs[k].mass = mk at *
                  have hwk : wrap64 (mass + mk) = mass + mk := by simp only [wrap64]; omega
                  have HR := hide hr
                  clear hr hwk hpk hc
                  by_cases hmo : mass + mk ≤ d1
                  · have hst := Ch.step_yes (first := first) (fit := fitC d0 d1 d2 d3 d4 xs) (ms := xs.map fM) (most := d1) (f := f) (ch := ch) (mass := mass) (k := k) (s := s') (by rw [hms]; exact hmo)
                    rw [hms] at hst
                    have HST := hide hst
                    have HSN := hide hsn
                    clear hst hsn hms
                    go_wp2_with (first | (go_at_call 158; refine (sizeIngot _ _ _ _).mono ?_; rintro e w4 ⟨rfl, rfl⟩))
                    refine (cloneI (b + 1) A2 c2 ch _ HO.out (by omega)).mono ?_
                    rintro e w4 ⟨A4, c4, rfl, ho4, hb4⟩
                    have HO4 := hide ho4
                    have HB4 := hide hb4
                    have hz4 := hb4.size
                    clear ho4 hb4 g2 g4 hc1
                    go_wp2_with (at_builtin; refine wpList_appI rfl _ _ rfl wr.heap.size rfl HO4.out rfl (by omega) ?_ ?_; (focus (exact hz4)); intro A5 c5 w5 ho5 hb5 _hg5; have HO5 := hide ho5; have HB5 := hide hb5; clear ho5 hb5)
                    have hb5 : Below wr.heap.size wr w5 := HB4.out.trans HB5.out
                    have hq := ih (ch ++ [(k : Int)]) (mass + mk) (k + 1) s' w5 A5 c5 (by omega) (hide (HS.out.below hb5)) (hide (by rw [List.length_append]; exact HO5.out.mono (by omega))) (hide (fun i hi => by
                      rcases List.mem_append.1 hi with hi | hi
                      · exact HG.out i hi
                      · simp at hi; omega)) (by simp; omega) (by omega) (hide (NextIs.snoc ch k)) (hide HSN.out.symm) hmo
                    rw [show (ch ++ [(k : Int)]).length = ch.length + 1 by simp] at hq
                    refine hq.mono ?_
                    rintro e w6 ⟨rfl, hS6, hg6⟩
                    have HS6 := hide hS6
                    have G6 := hide (grown_trans (grown_trans GW.out (grown_of_below hb5 (some b))) hg6)
                    have HC6 := hide (own_far (HO.out.below hb5) hg6)
                    clear hS6 hg6 hq hb5 HO4 HO5 HB4 HB5
                    go_wp2_with fail
                    go_roundw
                    case rel => exact ⟨k + 1, _, by go_num, by omega, by omega, HS6, G6, HC6, hide (by rw [← HF.out, HR.out, HST.out])⟩
                    case measure => simp [intOf]; omega
                  · have hst := Ch.step_no (first := first) (fit := fitC d0 d1 d2 d3 d4 xs) (ms := xs.map fM) (most := d1) (f := f) (ch := ch) (mass := mass) (k := k) (s := s') (by rw [hms]; exact hmo)
                    have HST := hide hst
                    clear hst hsn hms
                    go_wp2_with (go_at_call 158; refine (sizeIngot _ _ _ _).mono ?_; rintro e w4 ⟨rfl, rfl⟩)
                    go_roundw
                    case rel => exact ⟨k + 1, s', by go_num, by omega, by omega, HS, GW, HO, hide (by rw [← HF.out, HR.out, HST.out])⟩
                    case measure => simp [intOf]; omega
                · obtain rfl : k = xs.length := by omega
                  have hr := Ch.rounds_none (stp := Ch.step first (fitC d0 d1 d2 d3 d4 xs) (xs.map fM) d1 f ch mass) (s := s') (Nat.le_refl xs.length)
                  have HE2 := hide (HF.out.symm.trans hr)
                  clear hr
                  go_wp2_with (go_at_call 158; refine (sizeIngot _ _ _ _).mono ?_; rintro e w4 ⟨rfl, rfl⟩)
                  go_end0
                  exact ⟨rfl, by rw [HE2.out]; exact HS.out, GW.out⟩
    · have e1 := Ch.srch_ended (fit := fitC d0 d1 d2 d3 d4 xs) (ms := xs.map fM) (most := d1) (f := f + 1) (ch := ch) (mass := mass) (k0 := k0) hen
      obtain ⟨bv, bc, h1, _⟩ := HS.out.st
      obtain ⟨left, spent, count, best, least⟩ := s
      unfold Ch.ended at hen
      simp only at hen h1
      have g1 : w.cell? ⟨b, 1, none⟩ = some (.bool spent) := by simp [World.cell?, h1]
      have g8 : w.cell? ⟨b, 8, none⟩ = some (.bool first) := by simp [World.cell?, h1]
      have g9 : w.cell? ⟨b, 9, none⟩ = some (.int .i64 count) := by simp [World.cell?, h1]
      have E1 := hide e1
      clear e1 h1 ih HX HV HD HO HG HN HM
      cases spent
      · cases first
        · simp at hen
        · have hc : decide (0 < count) = true := by simpa using hen
          clear hen
          go_enter Try.func150, Try.ntmps150
          go_wp2_with fail
          ((try simp only [Exit.inBlock, Exit.then]); refine bodyPost_ret (results_none rfl _ _ _) rfl ?_)
          exact ⟨rfl, by rw [E1.out]; exact HS.out, grown_refl _ _⟩
      · clear hen
        go_enter Try.func150, Try.ntmps150
        go_wp2_with fail
        ((try simp only [Exit.inBlock, Exit.then]); refine bodyPost_ret (results_none rfl _ _ _) rfl ?_)
        exact ⟨rfl, by rw [E1.out]; exact HS.out, grown_refl _ _⟩
end Go.Proofs.Ytjklhacffdhgaaa
