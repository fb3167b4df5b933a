/- What a visit of the reference's search is to show. -/
import Derived.Test.YtjklhacffdhgaaaChX
namespace Go.Proofs.Ytjklhacffdhgaaa
open Go.RowKit

theorem not_there {v v1 : Value} {q N : Nat} (hat : v1.ownBlock = v.ownBlock ∨ ∃ g, v1.ownBlock = some g ∧ N ≤ g) (h : ∀ g, v.ownBlock = some g → g < q) (hN : q < N) : v1.ownBlock ≠ some q := by
  intro e
  rcases hat with e2 | ⟨g, e2, hz⟩
  · have := h q (e2.symm.trans e); omega
  · rw [e2] at e; injection e with e; omega
def VisitOK (w0 : World) (b : Nat) (A : Option Addr) (c dq : Nat) (xs : List IngotR) (d0 d1 d2 d3 d4 : Int) (first : Bool) (budget : Int) (f : Nat) : Prop :=
  ∀ (ch : List Int) (k0 : Nat) (s : Ch.S) (w : World) (cv : Option Addr) (cc : Nat) (bv : Option Addr) (bc : Nat), xs.length < f + k0 → Hid (ChX w0 b A xs.length c dq first budget w cv cc ch (sumB fM xs ch) (sumB fT xs ch) (sumB fO xs ch) bv bc s) → Hid (GoodCh xs.length ch) → ch.length ≤ k0 → k0 ≤ xs.length → sumB fM xs ch ≤ d1 → Hid (Ch.ended first s = false) →
    Calls Try.prog 148 #[.pointer (some ⟨b, 0, none⟩), .int .i64 k0] w fun e w' => ∃ (s' : Ch.S) (cv' : Option Addr) (cc' : Nat) (bv' : Option Addr) (bc' : Nat), e = .returned (.bool (!Ch.ended first s')) ∧ Ch.srch first (fitC d0 d1 d2 d3 d4 xs) (xs.map fM) d1 f ch (sumB fM xs ch) k0 s = s' ∧ ChX w0 b A xs.length c dq first budget w' cv' cc' ch (sumB fM xs ch) (sumB fT xs ch) (sumB fO xs ch) bv' bc' s' ∧ Fr b w w' (.slice cv ch.length cc) (.slice cv' ch.length cc')
end Go.Proofs.Ytjklhacffdhgaaa
