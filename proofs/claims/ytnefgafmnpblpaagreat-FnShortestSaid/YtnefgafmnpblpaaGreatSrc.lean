/- The reference's source of draws: bytes, a place, a seed, in a block of the call's own. -/
import Derived.Test.YtnefgafmnpblpaaGreatInts
import Derived.Laws.Entries
import Derived.Laws.BitsLemmas
namespace Go.Proofs.YtnefgafmnpblpaaGreat
open Go.RowKit

/-- A row of bytes that lies below the block B. -/
def ByAt (w : World) (B : Nat) (A : Option Addr) (n : Nat) : Prop := ∀ k : Nat, k < n → ∃ (b off : Nat) (x : Int), A = some ⟨b, off, none⟩ ∧ b < B ∧ w.cell? ⟨b, off + k, none⟩ = some (.int .u8 x) ∧ 0 ≤ x ∧ x ≤ 255
theorem ByAt.below {w w' : World} {B : Nat} {A : Option Addr} {n : Nat} (h : ByAt w B A n) (hb : Below B w w') : ByAt w' B A n := fun k hk => by
  obtain ⟨b, off, x, e, hl, hc, hx⟩ := h k hk
  exact ⟨b, off, x, e, hl, (hb.cell (p := ⟨b, off + k, none⟩) hl).trans hc, hx⟩
/-- A source: at most N bytes were taken. -/
structure SrcC (w : World) (b : Nat) (A : Option Addr) (n c : Nat) (at_ seed : Int) : Prop where
  c0 : w.cell? ⟨b, 0, none⟩ = some (.slice A n c)
  c1 : w.cell? ⟨b, 1, none⟩ = some (.int .i64 at_)
  c2 : w.cell? ⟨b, 2, none⟩ = some (.int .u64 seed)
  f1 : w.frozen? ⟨b, 1, none⟩ = false
  f2 : w.frozen? ⟨b, 2, none⟩ = false
def Src (w : World) (B b N : Nat) : Prop := B ≤ b ∧ ∃ A n c at_ seed, SrcC w b A n c at_ seed ∧ ByAt w B A n ∧ n ≤ 9223372036854775807 ∧ 0 ≤ at_ ∧ at_ ≤ N
theorem Src.lt {w : World} {B b N : Nat} (h : Src w B b N) : b < w.heap.size := by
  obtain ⟨_, A, n, c, a, s, hc, _⟩ := h
  exact World.block_lt_of_cell? w _ hc.c0
theorem Src.more {w : World} {B b N N' : Nat} (h : Src w B b N) (hN : N ≤ N') : Src w B b N' := by
  obtain ⟨h0, A, n, c, a, s, hc, hb, hn, h1, h2⟩ := h
  exact ⟨h0, A, n, c, a, s, hc, hb, hn, h1, by omega⟩
/-- What the source's own draws, and what is made behind it, leave. -/
theorem Src.kept {w w' : World} {B b N : Nat} (h : Src w B b N) {row : Option Nat} (hg : w.grownBy w' row) (hb : Below B w w') (hne : some b ≠ row) : Src w' B b N := by
  have hl := h.lt
  obtain ⟨h0, A, n, c, a, s, hc, hB, hn, h1, h2⟩ := h
  have e := hg.block b hl hne
  have ec : ∀ j, w'.cell? ⟨b, j, none⟩ = w.cell? ⟨b, j, none⟩ := fun j => World.cell?_of_block (a := ⟨b, j, none⟩) e
  have ef : ∀ j, w'.frozen? ⟨b, j, none⟩ = w.frozen? ⟨b, j, none⟩ := fun j => World.frozen?_of_block (a := ⟨b, j, none⟩) e
  exact ⟨h0, A, n, c, a, s, ⟨(ec 0).trans hc.c0, (ec 1).trans hc.c1, (ec 2).trans hc.c2, (ef 1).trans hc.f1, (ef 2).trans hc.f2⟩, hB.below hb, hn, h1, h2⟩
theorem Src.below {w w' : World} {B b N : Nat} (h : Src w B b N) (hb : Below w.heap.size w w') : Src w' B b N :=
  h.kept (grown_of_below hb none) (hb.mono (Nat.le_trans h.1 (Nat.le_of_lt h.lt))) (by simp)


theorem grown_refl (w : World) (row : Option Nat) : w.grownBy w row := ⟨rfl, rfl, rfl, Nat.le_refl _, fun _ _ _ => rfl⟩
theorem grown_set {w w' : World} {b : Nat} (h : w.grownBy w' (some b)) (j : Nat) (v : Value) : w.grownBy (w'.setCell ⟨b, j, none⟩ v) (some b) :=
  ⟨h.os, h.tape, h.output, by simpa [World.setCell] using h.size, fun k hk hne => by
    refine Eq.trans ?_ (h.block k hk hne)
    have : k ≠ b := fun e => hne (by rw [e])
    simp [World.setCell, Array.getElem?_modify, Ne.symm this]⟩
theorem grown_drewN {w w' : World} {row : Option Nat} (h : w.grownBy w' row) (n : Nat) : w.grownBy (w'.drewN n) row := ⟨h.os, h.tape, h.output, h.size, h.block⟩

theorem src_fin {w W : World} {B b N n c m m' : Nat} {A : Option Addr} {p s p' s' : Int} (hw : W = (((w.drewN m).setCell ⟨b, 1, none⟩ (.int .i64 p')).setCell ⟨b, 2, none⟩ (.int .u64 s')).drewN m') (h0 : B ≤ b) (HB : ByAt w B A n) (hn : n ≤ 9223372036854775807) (hc : SrcC w b A n c p s) (p0 : 0 ≤ p') (p1 : p' ≤ N) :
    Src W B b N ∧ Below B w W ∧ w.grownBy W (some b) := by
  obtain ⟨c0, c1, c2, f1, f2⟩ := hc
  have hb : Below B w W := by rw [hw]; exact below_drewN (Below.setCell (Below.setCell (below_drewN (Below.refl _ _) _) h0 _) h0 _) _
  refine ⟨⟨h0, A, n, c, p', s', ?_, HB.below hb, hn, p0, p1⟩, hb, ?_⟩
  · rw [hw]; exact ⟨by go_simp, by go_simp, by go_simp, by go_simp, by go_simp⟩
  · rw [hw]; exact grown_drewN (grown_set (grown_set (grown_drewN (grown_refl _ _) _) _ _) _ _) _
theorem seed_range (x : Int) : 0 ≤ IntKind.u64.wrap x ∧ IntKind.u64.wrap x < 18446744073709551616 := by rw [IntKind.wrap_u64]; omega
theorem top255 (x : Int) (h0 : 0 ≤ x) (h1 : x < 18446744073709551616) : 0 ≤ bits .and .u64 (x / 1099511627776) 255 ∧ bits .and .u64 (x / 1099511627776) 255 ≤ 255 := by
  have h := bits_mask .u64 63 (by decide) (fun n h₀ h₁ => by rw [IntKind.wrap_u64]; omega) 8 (by decide) (x / 1099511627776) (by omega) (by omega)
  have e : ((2 : Int) ^ 8 - 1) = 255 := by decide
  have e2 : ((2 : Int) ^ 8) = 256 := by decide
  rw [e, e2] at h
  rw [h]
  omega

theorem top64 (x : Int) : 0 ≤ wrap64 (bits .and .u64 (IntKind.u64.wrap x / 1099511627776) 255) ∧ wrap64 (bits .and .u64 (IntKind.u64.wrap x / 1099511627776) 255) ≤ 255 := by
  have h := top255 _ (seed_range x).1 (seed_range x).2
  generalize bits .and .u64 (IntKind.u64.wrap x / 1099511627776) 255 = y at h
  simp only [wrap64]
  omega

set_option maxRecDepth 100000 in
theorem srcNext (B b N : Nat) (w : World) (h : Src w B b N) (hN : N ≤ 2000000) :
    Calls Tryz.prog 147 #[.pointer (some ⟨b, 0, none⟩)] w fun e w' => ∃ r : Int, e = .returned (.int .i64 r) ∧ 0 ≤ r ∧ r ≤ 255 ∧ Src w' B b (N + 1) ∧ Below B w w' ∧ w.grownBy w' (some b) := by
  have hl := h.lt
  obtain ⟨h0, A, n, c, p, s, hc, hB, hn, p0, p1⟩ := h
  have HC := hide hc
  obtain ⟨c0, c1, c2, f1, f2⟩ := hc
  have HB := hide hB
  clear hB
  have FIN := hide fun W m m' p' s' (hw : W = (((w.drewN m).setCell ⟨b, 1, none⟩ (.int .i64 p')).setCell ⟨b, 2, none⟩ (.int .u64 s')).drewN m') p0' (p1' : p' ≤ ((N + 1 : Nat) : Int)) => src_fin (B := B) hw h0 HB.out hn HC.out p0' p1'
  clear HC
  by_cases hp : p < n
  · obtain ⟨b2, off, x, rfl, hb2, hx, x0, x1⟩ := HB.out p.toNat (by omega)
    rw [show (p : Int) = (p.toNat : Int) by omega] at c1
    have hk : p.toNat < n := by omega
    have hk2 : p.toNat ≤ N := by omega
    generalize p.toNat = k at *
    clear p0 p1 hp HB
    go_enter Tryz.func147, Tryz.ntmps147
    go_wp2_with fail
    go_quiet (fail)
    go_wp2_with fail
    go_quiet (fail)
    go_wp2_with fail
    go_quiet (fail)
    go_wp2_with fail
    go_ret
    exact ⟨_, rfl, x0, x1, FIN.out _ _ _ _ _ rfl (by omega) (by omega)⟩
  · clear HB
    go_enter Tryz.func147, Tryz.ntmps147
    go_wp2_with fail
    go_quiet (fail)
    go_wp2_with fail
    go_quiet (fail)
    go_wp2_with fail
    go_ret
    exact ⟨_, rfl, (top64 _).1, (top64 _).2, FIN.out _ _ _ _ _ rfl (by omega) (by omega)⟩
set_option maxRecDepth 100000 in
theorem srcPick (B b N : Nat) (n : Int) (w : World) (h : Src w B b N) (hN : N ≤ 1000000) (hn : n ≤ 1000000) :
    Calls Tryz.prog 89 #[.pointer (some ⟨b, 0, none⟩), .int .i64 n] w fun e w' => ∃ r : Int, e = .returned (.int .i64 r) ∧ 0 ≤ r ∧ (1 ≤ n → r < n) ∧ Src w' B b (N + 2) ∧ Below B w w' ∧ w.grownBy w' (some b) := by
  have HS := hide h
  clear h
  by_cases h1 : n ≤ 1
  · go_enter Tryz.func89, Tryz.ntmps89
    go_wp2_with fail
    go_ret
    exact ⟨0, rfl, by omega, by omega, HS.out.more (by omega), Below.refl _ _, grown_refl _ _⟩
  · by_cases h2 : n ≤ 200
    · go_enter Tryz.func89, Tryz.ntmps89
      go_wp2_with fail
      refine (srcNext B b N _ HS.out (by omega)).mono ?_
      rintro e w1 ⟨r, rfl, r0, r1, hS1, hb1, hg1⟩
      have H1 := hide (And.intro hS1 (And.intro hb1 hg1))
      clear hS1 hb1 hg1
      go_wp2_with fail
      go_ret
      exact ⟨_, rfl, Int.emod_nonneg _ (by omega), fun _ => Int.emod_lt_of_pos _ (by omega), H1.out.1.more (by omega), H1.out.2.1, H1.out.2.2⟩
    · go_enter Tryz.func89, Tryz.ntmps89
      go_wp2_with fail
      refine (srcNext B b N _ HS.out (by omega)).mono ?_
      rintro e w1 ⟨r, rfl, r0, r1, hS1, hb1, hg1⟩
      have H1 := hide (And.intro hS1 (And.intro hb1 hg1))
      clear hS1 hb1 hg1
      go_wp2_with fail
      refine (srcNext B b (N + 1) _ H1.out.1 (by omega)).mono ?_
      rintro e w2 ⟨r', rfl, r0', r1', hS2, hb2, hg2⟩
      have H2 := hide (And.intro hS2 (And.intro (H1.out.2.1.trans hb2) (grown_trans H1.out.2.2 hg2)))
      clear hS2 hb2 hg2
      go_wp2_with fail
      go_ret
      exact ⟨_, rfl, Int.emod_nonneg _ (by omega), fun _ => Int.emod_lt_of_pos _ (by omega), H2.out.1, H2.out.2.1, H2.out.2.2⟩
theorem SlAt.grown {α : Type} {enc : α → List Value} {sz : Nat} {w w' : World} {A : Option Addr} {xs : List α} {row : Option Nat} (h : SlAt enc sz w A xs) (hg : w.grownBy w' row) (hne : ∀ b off, A = some ⟨b, off, none⟩ → some b ≠ row) : SlAt enc sz w' A xs := by
  intro k hk
  obtain ⟨b, off, e, hl, hc⟩ := h k hk
  exact ⟨b, off, e, Nat.lt_of_lt_of_le hl hg.size, fun j v hv => (World.cell?_of_block (a := ⟨b, off + k * sz + j, none⟩) (hg.block b hl (hne b off e))).trans (hc j v hv)⟩
abbrev encS (s : ByteArray) : List Value := [.string s]
set_option maxRecDepth 100000 in
theorem srcamong (B b N : Nat) (A : Option Addr) (c : Nat) (xs : List Int) (w : World) (h : Src w B b N) (hN : N ≤ 1000000) (hx : SlAt encI 1 w A xs) (hne : ∀ b2 off, A = some ⟨b2, off, none⟩ → b2 ≠ b) (h1 : 1 ≤ xs.length) (h2 : xs.length ≤ 1000) :
    Calls Tryz.prog 88 #[.pointer (some ⟨b, 0, none⟩), .slice A xs.length c] w fun e w' => ∃ x : Int, e = .returned (.int .i64 x) ∧ x ∈ xs ∧ Src w' B b (N + 2) ∧ Below B w w' ∧ w.grownBy w' (some b) := by
  have HS := hide h
  have HX := hide hx
  clear h hx
  go_enter Tryz.func88, Tryz.ntmps88
  go_wp2_with fail
  refine (srcPick B b N _ _ HS.out hN (by omega)).mono ?_
  rintro e w1 ⟨r, rfl, r0, r1, hS1, hb1, hg1⟩
  have r2 := r1 (by omega)
  have H1 := hide (And.intro hS1 (And.intro hb1 hg1))
  obtain ⟨k, rfl⟩ := Int.eq_ofNat_of_zero_le r0
  have hk : k < xs.length := by omega
  obtain ⟨b2, off, rfl, hb2, hc⟩ := (HX.out.grown hg1 (fun b2 off e => by simpa using hne b2 off e)) k hk
  have hc0 := hc 0 _ rfl
  simp only [Nat.add_zero, Nat.mul_one] at hc0
  have hm := List.getElem_mem hk
  clear hS1 hb1 hg1 hc r1
  generalize xs[k] = x at *
  go_wp2_with fail
  go_ret
  exact ⟨_, rfl, hm, H1.out.1, H1.out.2.1, H1.out.2.2⟩
set_option maxRecDepth 100000 in
theorem srctext (B b N : Nat) (A : Option Addr) (c : Nat) (xs : List ByteArray) (w : World) (h : Src w B b N) (hN : N ≤ 1000000) (hx : SlAt encS 1 w A xs) (hne : ∀ b2 off, A = some ⟨b2, off, none⟩ → b2 ≠ b) (h1 : 1 ≤ xs.length) (h2 : xs.length ≤ 1000) :
    Calls Tryz.prog 136 #[.pointer (some ⟨b, 0, none⟩), .slice A xs.length c] w fun e w' => ∃ x : ByteArray, e = .returned (.string x) ∧ x ∈ xs ∧ Src w' B b (N + 2) ∧ Below B w w' ∧ w.grownBy w' (some b) := by
  have HS := hide h
  have HX := hide hx
  clear h hx
  go_enter Tryz.func136, Tryz.ntmps136
  go_wp2_with fail
  refine (srcPick B b N _ _ HS.out hN (by omega)).mono ?_
  rintro e w1 ⟨r, rfl, r0, r1, hS1, hb1, hg1⟩
  have r2 := r1 (by omega)
  have H1 := hide (And.intro hS1 (And.intro hb1 hg1))
  obtain ⟨k, rfl⟩ := Int.eq_ofNat_of_zero_le r0
  have hk : k < xs.length := by omega
  obtain ⟨b2, off, rfl, hb2, hc⟩ := (HX.out.grown hg1 (fun b2 off e => by simpa using hne b2 off e)) k hk
  have hc0 := hc 0 _ rfl
  simp only [Nat.add_zero, Nat.mul_one] at hc0
  have hm := List.getElem_mem hk
  clear hS1 hb1 hg1 hc r1
  generalize xs[k] = x at *
  go_wp2_with fail
  go_ret
  exact ⟨_, rfl, hm, H1.out.1, H1.out.2.1, H1.out.2.2⟩
end Go.Proofs.YtnefgafmnpblpaaGreat
