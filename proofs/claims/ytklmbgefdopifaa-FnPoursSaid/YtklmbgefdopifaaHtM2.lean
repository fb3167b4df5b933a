/- Schedules: FirstWrong finds nothing, IsSchedule says yes. -/
import Derived.Test.YtklmbgefdopifaaHtM
namespace Go.Proofs.Ytklmbgefdopifaa
open Go.RowKit

set_option maxRecDepth 100000 in
theorem implFirstWrong_ok (B : Nat) (A A1 A2 : Option Addr) (c c1 c2 : Nat) (ps : List PourR) (cs : List CrucR) (hs : List HeatR) (w : World) (h : SlAt encPour 4 w A ps) (k : SlAt encCruc 4 w A1 cs) (l : OwnH w B (.slice A2 hs.length c2) hs) (hr : rowsB vPourR PourR.nm 12 ps = true) (hd : okC cs = true) (hs0 : ∀ x ∈ ps, x.nm.size ≤ maxLen) (ht0 : ∀ x ∈ cs, x.nm.size ≤ maxLen) (hp : Plan ps cs hs) :
    Calls Try.prog 37 #[.slice A ps.length c, .slice A1 cs.length c1, .slice A2 hs.length c2] w fun en w' => en = .returned (.tuple #[.int .i64 (-1), .int .i64 0]) ∧ Below w.heap.size w w' := by
  obtain ⟨rv, rl⟩ := rowsB_okH hr
  obtain ⟨cv, cl, -⟩ := okC_true hd
  have HX := hide h
  have HY := hide k
  have HZ := hide l
  have hcv : ∀ W : World, SlAt encCruc 4 W A1 cs → Calls Try.prog 69 #[.slice A1 cs.length c1] W fun e w' => e = .returned (.bool true) ∧ Below W.heap.size W w' := fun W g => by rw [← hd]; exact implValidCrucibles A1 c1 cs W g (by omega) ht0
  have hpv : ∀ W : World, SlAt encPour 4 W A ps → Calls Try.prog 68 #[.slice A ps.length c] W fun e w' => e = .returned (.bool true) ∧ Below W.heap.size W w' := fun W g => by rw [← hr]; exact implValidPours A c ps W g (by omega) hs0
  have HCV := hide hcv
  have HPV := hide hpv
  have hfw := fun (W : World) (g : Below w.heap.size w W) => implfirstWrong B A A1 A2 c c1 c2 ps cs hs W (h.below g) (k.below g) (l.below g) rv cv rl cl (by have := hp.2; omega) hp.1
  have HFW := hide hfw
  have hlen : ((hs.length : Int) == ps.length) = true := by have := hp.2; simp; omega
  clear h k l hr hd hs0 ht0 hcv hpv rv cv hfw hp
  go_enter Try.func37, Try.ntmps37
  go_wp2_with fail
  refine (HPV.out _ HX.out).mono ?_
  rintro e w1 ⟨rfl, hb1⟩
  have B1 := hide hb1
  clear hb1
  go_wp2_with fail
  refine (HCV.out _ (HY.out.below B1.out)).mono ?_
  rintro e w2 ⟨rfl, hb2⟩
  have B2 := hide (B1.out.trans (hb2.mono B1.out.size))
  clear hb2
  go_wp2_with fail
  refine (HFW.out _ B2.out).mono ?_
  rintro e w3 ⟨rfl, hb3⟩
  have B3 := hide (B2.out.trans (hb3.mono B2.out.size))
  clear hb3
  go_wp2_with fail
  go_ret2
  exact ⟨rfl, B3.out⟩
set_option maxRecDepth 100000 in
theorem implIsSchedule_ok (B : Nat) (A A1 A2 : Option Addr) (c c1 c2 : Nat) (ps : List PourR) (cs : List CrucR) (hs : List HeatR) (w : World) (h : SlAt encPour 4 w A ps) (k : SlAt encCruc 4 w A1 cs) (l : OwnH w B (.slice A2 hs.length c2) hs) (hr : rowsB vPourR PourR.nm 12 ps = true) (hd : okC cs = true) (hs0 : ∀ x ∈ ps, x.nm.size ≤ maxLen) (ht0 : ∀ x ∈ cs, x.nm.size ≤ maxLen) (hp : Plan ps cs hs) :
    Calls Try.prog 38 #[.slice A ps.length c, .slice A1 cs.length c1, .slice A2 hs.length c2] w fun en w' => en = .returned (.bool true) ∧ Below w.heap.size w w' := by
  obtain ⟨rv, rl⟩ := rowsB_okH hr
  obtain ⟨cv, cl, -⟩ := okC_true hd
  have HX := hide h
  have HY := hide k
  have HZ := hide l
  have hcv : ∀ W : World, SlAt encCruc 4 W A1 cs → Calls Try.prog 69 #[.slice A1 cs.length c1] W fun e w' => e = .returned (.bool true) ∧ Below W.heap.size W w' := fun W g => by rw [← hd]; exact implValidCrucibles A1 c1 cs W g (by omega) ht0
  have hpv : ∀ W : World, SlAt encPour 4 W A ps → Calls Try.prog 68 #[.slice A ps.length c] W fun e w' => e = .returned (.bool true) ∧ Below W.heap.size W w' := fun W g => by rw [← hr]; exact implValidPours A c ps W g (by omega) hs0
  have HCV := hide hcv
  have HPV := hide hpv
  have hfw := fun (W : World) (g : Below w.heap.size w W) => implfirstWrong B A A1 A2 c c1 c2 ps cs hs W (h.below g) (k.below g) (l.below g) rv cv rl cl (by have := hp.2; omega) hp.1
  have HFW := hide hfw
  have hlen : ((hs.length : Int) == ps.length) = true := by have := hp.2; simp; omega
  clear h k l hr hd hs0 ht0 hcv hpv rv cv hfw hp
  go_enter Try.func38, Try.ntmps38
  go_wp2_with fail
  refine (HPV.out _ HX.out).mono ?_
  rintro e w1 ⟨rfl, hb1⟩
  have B1 := hide hb1
  clear hb1
  go_wp2_with fail
  refine (HCV.out _ (HY.out.below B1.out)).mono ?_
  rintro e w2 ⟨rfl, hb2⟩
  have B2 := hide (B1.out.trans (hb2.mono B1.out.size))
  clear hb2
  go_wp2_with fail
  refine (HFW.out _ B2.out).mono ?_
  rintro e w3 ⟨rfl, hb3⟩
  have B3 := hide (B2.out.trans (hb3.mono B2.out.size))
  clear hb3
  go_wp2_with fail
  go_ret
  exact ⟨rfl, B3.out⟩
end Go.Proofs.Ytklmbgefdopifaa
