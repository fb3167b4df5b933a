/- The reference's search for charges: what it leaves is what the plain search says. -/
import Derived.Test.YtjklhacffdhgaaaChV1
import Derived.Test.YtjklhacffdhgaaaChV2
import Derived.Test.YtjklhacffdhgaaaChV4
import Derived.Test.YtjklhacffdhgaaaChV5
namespace Go.Proofs.Ytjklhacffdhgaaa
open Go.RowKit

theorem visit_any (w0 : World) (b : Nat) (A : Option Addr) (c dq : Nat) (xs : List IngotR) (d0 d1 d2 d3 d4 : Int) (first : Bool) (budget : Int) (HX : Hid (SlAt encIngot 5 w0 A xs)) (HV : Hid (∀ x ∈ xs, vIngotX x = true)) (hn : xs.length ≤ 16) (hd : vDem d0 d1 d2 d3 d4 = true)
    (hdq : dq < w0.heap.size) (q0 : w0.cell? ⟨dq, 0, none⟩ = some (.int .i64 d0)) (q1 : w0.cell? ⟨dq, 1, none⟩ = some (.int .i64 d1)) (q2 : w0.cell? ⟨dq, 2, none⟩ = some (.int .i64 d2)) (q3 : w0.cell? ⟨dq, 3, none⟩ = some (.int .i64 d3)) (q4 : w0.cell? ⟨dq, 4, none⟩ = some (.int .i64 d4)) (f : Nat) : VisitOK w0 b A c dq xs d0 d1 d2 d3 d4 first budget f := by
  have HQ := hide (And.intro q0 (And.intro q1 (And.intro q2 (And.intro q3 q4))))
  induction f with
  | zero => intro ch k0 s w cv cc bv bc hf _ _ _ hk; omega
  | succ f ih =>
    intro ch k0 s w cv cc bv bc hf HS HG hck hk0 hmd HE
    obtain ⟨left, spent, count, best, least⟩ := s
    obtain rfl : spent = false := by
      have := HE.out
      unfold Ch.ended at this
      cases spent
      · rfl
      · simp at this
    by_cases hl0 : left = 0
    · exact visit_zero w0 b A c dq xs d0 d1 d2 d3 d4 first budget HX HV hn (hide hd) hdq HQ f ih ch k0 left count best least w cv cc bv bc hf HS HG hck hk0 hmd HE hl0
    · cases hfit : fitC d0 d1 d2 d3 d4 xs ch
      · exact visit_no w0 b A c dq xs d0 d1 d2 d3 d4 first budget HX HV hn (hide hd) hdq HQ f ih ch k0 left count best least w cv cc bv bc hf HS HG hck hk0 hmd HE hl0 hfit
      · cases hbt : Ch.better (sumB fM xs ch) ⟨left - 1, false, count, best, least⟩
        · cases hfi : first
          · subst hfi; exact visit_all_n w0 b A c dq xs d0 d1 d2 d3 d4 false budget HX HV hn (hide hd) hdq HQ f ih ch k0 left count best least w cv cc bv bc hf HS HG hck hk0 hmd HE hl0 hfit hbt rfl
          · subst hfi; exact visit_first_n w0 b A c dq xs d0 d1 d2 d3 d4 true budget HX HV hn (hide hd) hdq HQ f ih ch k0 left count best least w cv cc bv bc hf HS HG hck hk0 hmd HE hl0 hfit hbt rfl
        · cases hfi : first
          · subst hfi; exact visit_all_b w0 b A c dq xs d0 d1 d2 d3 d4 false budget HX HV hn (hide hd) hdq HQ f ih ch k0 left count best least w cv cc bv bc hf HS HG hck hk0 hmd HE hl0 hfit hbt rfl
          · subst hfi; exact visit_first_b w0 b A c dq xs d0 d1 d2 d3 d4 true budget HX HV hn (hide hd) hdq HQ f ih ch k0 left count best least w cv cc bv bc hf HS HG hck hk0 hmd HE hl0 hfit hbt rfl
end Go.Proofs.Ytjklhacffdhgaaa
