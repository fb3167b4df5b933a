/- The reference's search for schedules: what it leaves is what the plain search says. -/
import Derived.Test.YtklmbgefdopifaaHtV2
namespace Go.Proofs.Ytklmbgefdopifaa
open Go.RowKit

theorem hvisit_any (w0 : World) (b : Nat) (A : Option Addr) (c : Nat) (ps : List PourR) (A1 : Option Addr) (c1 : Nat) (cs : List CrucR) (fA : Option Addr) (fc : Nat) (dA : Option Addr) (dc : Nat) (first : Bool) (budget : Int) (HX : Hid (SlAt encPour 4 w0 A ps)) (HY : Hid (SlAt encCruc 4 w0 A1 cs)) (HV : Hid (∀ x ∈ ps, vPourR x = true)) (HW : Hid (∀ y ∈ cs, vCrucR y = true)) (hn : ps.length ≤ 12) (hm : cs.length ≤ 4) (f : Nat) : HVisit w0 b A c ps A1 c1 cs fA fc dA dc first budget f := by
  induction f with
  | zero => intro hs s w hv hc bv bc hf _ _ hle; omega
  | succ f ih =>
    intro hs s w hv hc bv bc hf HS HG hle HE
    obtain ⟨left, spent, count, best⟩ := s
    obtain rfl : spent = false := by
      have := HE.out
      unfold Ht.ended at this
      cases spent
      · rfl
      · simp at this
    by_cases hl0 : left = 0
    · exact hvisit_zero w0 b A c ps A1 c1 cs fA fc dA dc first budget HX HY HV HW hn hm f ih hs left count best w hv hc bv bc hf HS HG hle HE hl0
    · by_cases hfull : hs.length = ps.length
      · cases hbt : Ht.better hs ⟨left - 1, false, count, best⟩
        · exact hvisit_full_n w0 b A c ps A1 c1 cs fA fc dA dc first budget HX HY HV HW hn hm f ih hs left count best w hv hc bv bc hf HS HG hle HE hl0 hfull hbt
        · exact hvisit_full_b w0 b A c ps A1 c1 cs fA fc dA dc first budget HX HY HV HW hn hm f ih hs left count best w hv hc bv bc hf HS HG hle HE hl0 hfull hbt
      · exact hvisit_goes w0 b A c ps A1 c1 cs fA fc dA dc first budget HX HY HV HW hn hm f ih hs left count best w hv hc bv bc hf HS HG hle HE hl0 hfull
end Go.Proofs.Ytklmbgefdopifaa
