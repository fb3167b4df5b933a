/- Moments, reactions, stresses and bendings of beams, on both sides. -/
import Derived.Test.YtajodbhbmfjmjaaGreatDoorBeam2
import Derived.Test.YtajodbhbmfjmjaaGreatDoorArith
namespace Go.Proofs.YtajodbhbmfjmjaaGreatDoor
open Go.RowKit

/-- What the numbers of a valid beam are good for. -/
structure GoodB (span wd dp wood : Int) (ls : List LoadR) : Prop where
  s1 : 1 ≤ span
  s2 : span ≤ 6000
  w1 : 20 ≤ wd
  w2 : wd ≤ 1000
  d1 : 20 ≤ dp
  d2 : dp ≤ 1000
  o1 : 1000 ≤ wood
  o2 : wood ≤ 20000
  l : ∀ x ∈ ls, (0 ≤ x.at_ ∧ x.at_ ≤ span) ∧ 1 ≤ x.wt ∧ x.wt ≤ 200000
  n : ls.length ≤ 8
theorem good_of {nm : ByteArray} {span wd dp wood : Int} {ls : List LoadR} (h : vBeam nm span wd dp wood ls = true) : GoodB span wd dp wood ls := by
  obtain ⟨_, ⟨a1, a2⟩, ⟨a3, a4⟩, ⟨a5, a6⟩, ⟨a7, a8⟩, l, n, _⟩ := vBeam_true h
  exact ⟨a1, a2, a3, a4, a5, a6, a7, a8, l, n⟩

/-- A sum over the loads. -/
def sumB (f : LoadR → Int) : List LoadR → Int
  | [] => 0
  | x :: xs => f x + sumB f xs
theorem sumB_append (f : LoadR → Int) (a b : List LoadR) : sumB f (a ++ b) = sumB f a + sumB f b := by
  induction a with
  | nil => simp [sumB]
  | cons x a ih => simp only [List.cons_append, sumB, ih]; omega
theorem sumB_take {f : LoadR → Int} {l : List LoadR} {k : Nat} (h : k < l.length) : sumB f (l.take (k + 1)) = sumB f (l.take k) + f l[k] := by
  rw [List.take_succ_eq_append_getElem h, sumB_append]; simp [sumB]
theorem sumB_bd {f : LoadR → Int} {l : List LoadR} {M : Int} (h : ∀ x ∈ l, 0 ≤ f x ∧ f x ≤ M) : 0 ≤ sumB f l ∧ sumB f l ≤ M * l.length := by
  induction l with
  | nil => simp [sumB]
  | cons x l ih =>
    have a := h x (by simp)
    have b := ih fun y hy => h y (by simp [hy])
    have e : M * ((x :: l).length : Int) = M * l.length + M := by rw [List.length_cons, Int.natCast_add, Int.mul_add]; simp
    rw [e]
    simp only [sumB]
    omega
theorem sumB_take_bd {f : LoadR → Int} {l : List LoadR} {M : Int} (k : Nat) (h : ∀ x ∈ l, 0 ≤ f x ∧ f x ≤ M) (h0 : 0 ≤ M) (hl : l.length ≤ 8) : 0 ≤ sumB f (l.take k) ∧ sumB f (l.take k) ≤ M * 8 := by
  have a := sumB_bd (f := f) (l := l.take k) (M := M) fun x hx => h x (List.mem_of_mem_take hx)
  have b : ((l.take k).length : Int) ≤ 8 := by rw [List.length_take]; omega
  have c : M * ((l.take k).length : Int) ≤ M * 8 := Int.mul_le_mul_of_nonneg_left b h0
  omega
theorem mul_bd {a b A B : Int} (a0 : 0 ≤ a) (a1 : a ≤ A) (b0 : 0 ≤ b) (b1 : b ≤ B) : 0 ≤ a * b ∧ a * b ≤ A * B := ⟨Int.mul_nonneg a0 b0, Int.mul_le_mul a1 b1 b0 (by omega)⟩
/-- What a load adds to the moment at a place, times the span. -/
def mTerm (span x : Int) (l : LoadR) : Int := if l.at_ < x then l.wt * (span - l.at_) * x - l.wt * (x - l.at_) * span else l.wt * (span - l.at_) * x
theorem mTerm_parts {span x a t : Int} (s2 : span ≤ 6000) (x0 : 0 ≤ x) (x1 : x ≤ span) (a0 : 0 ≤ a) (a1 : a ≤ span) (t0 : 1 ≤ t) (t1 : t ≤ 200000) :
    (0 ≤ t * (span - a) ∧ t * (span - a) ≤ 1200000000) ∧ (0 ≤ t * (span - a) * x ∧ t * (span - a) * x ≤ 7200000000000) := by
  have p := mul_bd (a := t) (b := span - a) (A := 200000) (B := 6000) (by omega) t1 (by omega) (by omega)
  have q := mul_bd (a := t * (span - a)) (b := x) (A := 1200000000) (B := 6000) p.1 (by omega) x0 (by omega)
  omega
theorem mTerm_bd {span x : Int} {l : LoadR} (s2 : span ≤ 6000) (x0 : 0 ≤ x) (x1 : x ≤ span) (h : (0 ≤ l.at_ ∧ l.at_ ≤ span) ∧ 1 ≤ l.wt ∧ l.wt ≤ 200000) : 0 ≤ mTerm span x l ∧ mTerm span x l ≤ 7200000000000 := by
  obtain ⟨⟨a0, a1⟩, t0, t1⟩ := h
  have p := mTerm_parts s2 x0 x1 a0 a1 t0 t1
  unfold mTerm
  split
  · rename_i hlt
    have q := mTerm_parts (span := span) (x := span) (a := span - (x - l.at_)) (t := l.wt) s2 (by omega) (by omega) (by omega) (by omega) t0 t1
    rw [show span - (span - (x - l.at_)) = x - l.at_ by omega] at q
    have e : l.wt * (span - l.at_) * x - l.wt * (x - l.at_) * span = l.wt * l.at_ * (span - x) := by
      rw [Int.mul_sub, Int.mul_sub, Int.sub_mul, Int.sub_mul, Int.mul_sub, Int.mul_right_comm l.wt span x]
      omega
    have r := mul_bd (a := l.wt * l.at_) (b := span - x) (A := 1200000000) (B := 6000) (Int.mul_nonneg (by omega) a0) (by have := mul_bd (a := l.wt) (b := l.at_) (A := 200000) (B := 6000) (by omega) t1 a0 (by omega); omega) (by omega) (by omega)
    rw [e]
    omega
  · omega
/-- The moment at a place, times the span. -/
def momB (span x : Int) (ls : List LoadR) : Int := sumB (mTerm span x) ls
theorem momB_take_bd {span x : Int} {ls : List LoadR} (k : Nat) (s2 : span ≤ 6000) (x0 : 0 ≤ x) (x1 : x ≤ span) (h : ∀ l ∈ ls, (0 ≤ l.at_ ∧ l.at_ ≤ span) ∧ 1 ≤ l.wt ∧ l.wt ≤ 200000) (hn : ls.length ≤ 8) : 0 ≤ momB span x (ls.take k) ∧ momB span x (ls.take k) ≤ 57600000000000 := by
  have := sumB_take_bd (f := mTerm span x) (M := 7200000000000) k (fun l hl => mTerm_bd s2 x0 x1 (h l hl)) (by omega) hn
  unfold momB
  omega
theorem momB_bd {span x : Int} {ls : List LoadR} (s2 : span ≤ 6000) (x0 : 0 ≤ x) (x1 : x ≤ span) (h : ∀ l ∈ ls, (0 ≤ l.at_ ∧ l.at_ ≤ span) ∧ 1 ≤ l.wt ∧ l.wt ≤ 200000) (hn : ls.length ≤ 8) : 0 ≤ momB span x ls ∧ momB span x ls ≤ 57600000000000 := by
  have := momB_take_bd ls.length s2 x0 x1 h hn
  rwa [List.take_length] at this

set_option maxRecDepth 100000 in
theorem implspanMoment (nm : ByteArray) (span wd dp wood : Int) (A : Option Addr) (c : Nat) (ls : List LoadR) (w : World) (h : SlAt encLoad 2 w A ls) (hg : GoodB span wd dp wood ls) (x : Int) (x0 : 0 ≤ x) (x1 : x ≤ span) :
    Calls Tryz.prog 23 #[.agg #[.string nm, .int .i64 span, .int .i64 wd, .int .i64 dp, .int .i64 wood, .slice A ls.length c], .int .i64 x] w fun e w' => e = .returned (.int .i64 (momB span x ls)) ∧ Below w.heap.size w w' := by
  have HX := hide (h.below ((Below.refl _ _).alloc (Nat.le_refl _) (.cells #[.string nm, .int .i64 span, .int .i64 wd, .int .i64 dp, .int .i64 wood, .slice A ls.length c] 26)))
  have HG := hide hg
  have s1 := hg.s1
  have s2 := hg.s2
  have hn := hg.n
  clear h hg
  go_enter Tryz.func23, Tryz.ntmps23
  go_wp2_with fail
  go_loopw [11, 5] (fun v t wr => ∃ (k : Nat) (s : Int), v = .int .i64 k ∧ t = .int .i64 s ∧ k ≤ ls.length ∧ Hid (s = momB span x (ls.take k)) ∧ Below (w.heap.size + 1) (w.alloc (.cells #[.string nm, .int .i64 span, .int .i64 wd, .int .i64 dp, .int .i64 wood, .slice A ls.length c] 26)) wr) (fun v _ _ => ls.length - (intOf v).toNat)
  case atStart => exact ⟨0, 0, rfl, rfl, by omega, by simp [Hid, momB, sumB], Below.refl _ _⟩
  case round =>
    obtain ⟨k, s, rfl, rfl, hk, hs, hb⟩ := hrel
    have bs := momB_take_bd k s2 x0 x1 HG.out.l hn
    rw [← hs.out] at bs
    have q0_0 := hb.cell (p := ⟨w.heap.size, 0, none⟩) (by simp)
    have q0_1 := hb.cell (p := ⟨w.heap.size, 1, none⟩) (by simp)
    have q0_2 := hb.cell (p := ⟨w.heap.size, 2, none⟩) (by simp)
    have q0_3 := hb.cell (p := ⟨w.heap.size, 3, none⟩) (by simp)
    have q0_4 := hb.cell (p := ⟨w.heap.size, 4, none⟩) (by simp)
    have q0_5 := hb.cell (p := ⟨w.heap.size, 5, none⟩) (by simp)
    simp at q0_0 q0_1 q0_2 q0_3 q0_4 q0_5
    have hz := hb.size
    simp at hz
    have hz_0 : w.heap.size < wr.heap.size := by omega
    have HB := hide hb
    by_cases hlt : k < ls.length
    · obtain ⟨b, off, rfl, hbl, hc⟩ := HX.out.below (by simpa using hb) k hlt
      have c0 := hc 0 _ rfl
      have c1 := hc 1 _ rfl
      simp only [Nat.add_zero] at c0
      have hl := HG.out.l ls[k] (List.getElem_mem hlt)
      have ht := hide (sumB_take (f := mTerm span x) hlt)
      clear hc hb
      generalize ls[k] = y at *
      obtain ⟨a, t⟩ := y
      simp only at c0 c1 hl
      obtain ⟨⟨a0, a1⟩, t0, t1⟩ := hl
      obtain ⟨⟨m1, m2⟩, m3, m4⟩ := mTerm_parts s2 x0 x1 a0 a1 t0 t1
      by_cases hax : a < x
      · have hst : Hid (s + t * (span - a) * x - t * (x - a) * span = momB span x (ls.take (k + 1))) := hide (by unfold momB; rw [ht.out, hs.out, momB]; unfold mTerm; simp only [hax, if_true]; omega)
        have q := mTerm_parts (span := span) (x := span) (a := span - (x - a)) (t := t) s2 (by omega) (by omega) (by omega) (by omega) t0 t1
        rw [show span - (span - (x - a)) = x - a by omega] at q
        obtain ⟨⟨m5, m6⟩, m7, m8⟩ := q
        go_wp2_with fail
        go_roundw
        case rel => exact ⟨k + 1, _, by go_num, rfl, by omega, hst, HB.out.alloc (by omega) _⟩
        case measure => simp [intOf]; omega
      · have hst : Hid (s + t * (span - a) * x = momB span x (ls.take (k + 1))) := hide (by unfold momB; rw [ht.out, hs.out, momB]; unfold mTerm; simp only [hax, if_false])
        go_wp2_with fail
        go_roundw
        case rel => exact ⟨k + 1, _, by go_num, rfl, by omega, hst, HB.out.alloc (by omega) _⟩
        case measure => simp [intOf]; omega
    · obtain rfl : k = ls.length := by omega
      have e : Hid (momB span x ls = s) := hide (by rw [hs.out, List.take_length])
      go_wp2_with fail
      go_ret
      exact ⟨ret_int e.out.symm, Below.trans ((Below.refl _ _).alloc (Nat.le_refl _) _) (hb.mono (by omega))⟩
end Go.Proofs.YtajodbhbmfjmjaaGreatDoor
