/- The program's search for the greatest force: the way that decides about a swing. -/
import Derived.Test.YtjklhacffdhgaaaPuI
import Derived.Deep.RegionWith
namespace Go.Proofs.Ytjklhacffdhgaaa
open Go.RowKit

theorem slat_drop {w : World} {b o : Nat} {xs : List Int} (h : SlAt encI 1 w (some ⟨b, o, none⟩) xs) (m : Nat) : SlAt encI 1 w (some ⟨b, o + m, none⟩) (xs.drop m) := by
  intro k hk
  rw [List.length_drop] at hk
  obtain ⟨b', o', e, hl, hc⟩ := h (m + k) (by omega)
  injection e with e
  injection e with e1 e2
  subst e1; subst e2
  refine ⟨b, o + m, rfl, hl, fun j v hv => ?_⟩
  rw [List.getElem_drop] at hv
  have := hc j v hv
  rw [show o + m + k * 1 + j = o + (m + k) * 1 + j by omega]
  exact this
theorem slat_none {w : World} {A : Option Addr} {xs : List Int} (h : xs = []) : SlAt encI 1 w A xs := by
  intro k hk; subst h; simp at hk
set_option maxRecDepth 100000 in
set_option maxHeartbeats 4000000 in
theorem pull_goes (w0 : World) (b : Nat) (fA : Option Addr) (fc : Nat) (aA : Option Addr) (ac : Nat) (lim : Int) (fs am : List Int) (HF : Hid (SlAt encI 1 w0 fA fs)) (HA : Hid (SlAt encI 1 w0 aA am)) (HFN : Hid (∀ g o, fA = some ⟨g, o, none⟩ → g ≠ b)) (HAN : Hid (∀ g o, aA = some ⟨g, o, none⟩ → g ≠ b)) (hal : am.length = fs.length)
    (HFV : Hid (∀ x ∈ fs, 0 ≤ x ∧ x ≤ 1000000)) (HAV : Hid (∀ x ∈ am, 0 ≤ x ∧ x ≤ 1000000000000)) (hn : fs.length ≤ 16) (hfc : fs.length ≤ fc) (_hfc2 : fc ≤ 9223372036854775807) (hl0 : lim ≤ 100000)
    (f : Nat) (ih : PullOK w0 b fA fc aA ac lim fs am f) (k : Nat) (hk : k < fs.length) (hf : fs.length < f + 1 + k) (taken : List Int) (htl : taken.length ≤ k) (force sway : Int) (f0 : 0 ≤ force) (f1 : force ≤ 1000000 * k) (y0 : 0 ≤ sway) (y1 : sway ≤ lim) (left : Int) (spent : Bool) (most : Int) (best : List Int) (w : World) (tv : Option Addr) (tc : Nat) (bv : Option Addr) (bc : Nat)
    (HS : Hid (PuI w0 b fA fc aA ac fs.length lim w tv tc taken bv bc ⟨left, spent, most, best⟩)) :
    Calls Try.prog 104 #[.pointer (some ⟨b, 0, none⟩), .int .i64 k, .int .i64 force, .int .i64 sway] w (PullPost w0 b fA fc aA ac lim fs am (f + 1) k taken force sway ⟨left, spent, most, best⟩) := by
  have E1 := hide (show Pu.pull fs am lim (f + 1) k taken force sway ⟨left, spent, most, best⟩ = _ from Pu.pull_goes (by omega))
  have hst := HS.out.st
  simp only at hst
  have g0 : w.cell? ⟨b, 0, none⟩ = some (.int .i64 left) := by simp [World.cell?, hst]
  have ff0 : w.frozen? ⟨b, 0, none⟩ = false := by simp [World.frozen?, hst]
  have ff1 : w.frozen? ⟨b, 1, none⟩ = false := by simp [World.frozen?, hst]
  have g1 : w.cell? ⟨b, 1, none⟩ = some (.bool spent) := by simp [World.cell?, hst]
  have g2 : w.cell? ⟨b, 2, none⟩ = some (.slice fA fs.length fc) := by simp [World.cell?, hst]
  have g3 : w.cell? ⟨b, 3, none⟩ = some (.slice aA fs.length ac) := by simp [World.cell?, hst]
  have g4 : w.cell? ⟨b, 4, none⟩ = some (.int .i64 lim) := by simp [World.cell?, hst]
  have g7 : w.cell? ⟨b, 7, none⟩ = some (.int .i64 most) := by simp [World.cell?, hst]
  have HFW := hide (SlAt.grown HF.out HS.out.gr (fun b2 off e q => by injection q with q; exact HFN.out b2 off e q))
  have HAW := hide (SlAt.grown HA.out HS.out.gr (fun b2 off e q => by injection q with q; exact HAN.out b2 off e q))
  obtain ⟨bq, oq, hfA, hbq, hc⟩ := HFW.out k hk
  subst hfA
  have hfk := hc 0 _ rfl
  simp only [Nat.add_zero, Nat.mul_one] at hfk
  clear hc
  obtain ⟨ba, oa, haA, hba, hc⟩ := HAW.out k (by omega)
  subst haA
  have hak := hc 0 _ rfl
  simp only [Nat.add_zero, Nat.mul_one] at hak
  clear hc hst
  obtain ⟨r0, r1⟩ := rest_bd (k := k) HFV.out hn
  have hd : ((k : Int) == (fs.length : Int)) = false := by simp; omega
  have hd2 : (k == fs.length) = false := by simp; omega
  have kk : IntKind.i64.wrap ((k : Int) + 1) = ((k + 1 : Nat) : Int) := by rw [IntWalk.i64_in _ (by omega)]; rfl
  go_enter Try.func104, Try.ntmps104
  go_upto_region 3 with fail
  go_cut [8] (fun v wx => v = .int .i64 (Pu.rest fs k) ∧ wx = w)
  case first =>
    have hlen : (fs.drop (k + 1)).length = fs.length - (k + 1) := List.length_drop
    have hv1 := hide (show ∀ x ∈ fs.drop (k + 1), 0 ≤ x ∧ x ≤ 1000000000000 from fun x hx => by have := HFV.out x (List.mem_of_mem_drop hx); omega)
    have HS1 := hide (fun (A : Option Addr) (cc : Nat) (q : SlAt encI 1 w A (fs.drop (k + 1))) => show Calls Try.prog 116 #[.slice A (fs.length - (k + 1)) cc] w _ from by
      have t := implsumOf A cc (fs.drop (k + 1)) w q hv1.out (by omega)
      rw [hlen, ← sumF_eq] at t
      exact t)
    have HD := hide (slat_drop HFW.out (k + 1))
    have HN := hide (fun (h : fc = k + 1) => show fs.drop (k + 1) = [] from List.drop_eq_nil_of_le (by omega))
    clear hlen hv1
    go_wp2_with fail
    all_goals
      first
        | (have hcp : fc = k + 1 := by assumption
           refine (HS1.out _ _ (slat_none (HN.out hcp))).mono ?_)
        | refine (HS1.out _ _ HD.out).mono ?_
      rintro e w3 ⟨rfl, rfl⟩
      go_wp2_with fail
      go_meet
      exact ⟨rfl, rfl⟩
  case rest =>
    obtain ⟨rfl, rfl⟩ := hcut
    obtain ⟨fk, hfke⟩ : ∃ fk, fk = fs[k] := ⟨_, rfl⟩
    obtain ⟨ak, hake⟩ : ∃ ak, ak = am[k]'(by omega) := ⟨_, rfl⟩
    rw [← hfke] at hfk
    rw [← hake] at hak
    have hfd : fs.getD k 0 = fk := by rw [List.getD_eq_getElem?_getD, List.getElem?_eq_getElem hk, hfke]; rfl
    have had : am.getD k 0 = ak := by rw [List.getD_eq_getElem?_getD, List.getElem?_eq_getElem (by omega), hake]; rfl
    obtain ⟨v0, v1⟩ : 0 ≤ fk ∧ fk ≤ 1000000 := by rw [hfke]; exact HFV.out _ (List.getElem_mem hk)
    have HAK := hide hake
    obtain ⟨u0, u1⟩ : 0 ≤ ak ∧ ak ≤ 1000000000000 := by rw [hake]; exact HAV.out _ (List.getElem_mem (by omega))
    obtain ⟨rs, hrs⟩ : ∃ rs, rs = Pu.rest fs k := ⟨_, rfl⟩
    rw [← hrs] at r0 r1
    obtain ⟨m0, m1, m2, m3, m4⟩ := HS.out.inv
    simp only at m0 m1 m2 m3 m4
    have HONE := hide (show Pu.one fs am lim f k taken force sway ⟨left, spent, most, best⟩ = Pu.enter (decide (sway + ak ≤ lim) && decide (most < force + fk + rs)) (Pu.pull fs am lim f (k + 1) (taken ++ [(k : Int)]) (force + fk) (sway + ak)) ⟨left, spent, most, best⟩ from by unfold Pu.one; rw [hfd, had, ← hrs])
    rw [← hrs] at E1 ⊢
    have HRS := hide hrs
    obtain ⟨c1, hc1⟩ : ∃ c1, c1 = (decide (sway + ak ≤ lim) && decide (most < force + fk + rs)) := ⟨_, rfl⟩
    rw [← hc1] at HONE
    have kA : IntKind.i64.wrap (sway + ak) = sway + ak := IntWalk.i64_in _ (by omega)
    have kR : IntKind.i64.wrap (force + fk + rs) = force + fk + rs := IntWalk.i64_in _ (by omega)
    have kk5 : (k : Int) < fs.length := by omega
    have hbl := HS.out.lt
    have hnab : ¬ ba = b := HAN.out ba oa rfl
    have hnfb : ¬ bq = b := HFN.out bq oq rfl
    clear hfke hake hfd had hrs
    go_upto_region 5 with fail
    go_cut [89] (fun v wx => v = .bool (Pu.nodeB c1 ⟨left, spent, most, best⟩) ∧ Hid (PuI w0 b (some ⟨bq, oq, none⟩) fc (some ⟨ba, oa, none⟩) ac fs.length lim wx tv tc taken bv bc (Pu.nodeS c1 ⟨left, spent, most, best⟩)))
    case first =>
      by_cases q1 : sway + ak ≤ lim
      · by_cases q2 : most < force + fk + rs
        · have hcv : c1 = true := by rw [hc1]; simp [q1, q2]
          have d1 : decide (sway + ak ≤ lim) = true := by simpa using q1
          have d2 : decide (most < force + fk + rs) = true := by simpa using q2
          cases spent
          · by_cases hl : left = 0
            · obtain ⟨n1, n2⟩ := Pu.node_3 (s := ⟨left, false, most, best⟩) hcv rfl hl
              have HN := hide (And.intro n1 n2)
              subst hl
              have HND := hide (fun (W : World) (q0 : W.cell? ⟨b, 0, none⟩ = some (.int .i64 0)) (q1 : W.cell? ⟨b, 1, none⟩ = some (.bool false)) (q2 : W.frozen? ⟨b, 1, none⟩ = false) => node_none b false W q0 q1 q2)
              clear n1 n2 hc1 hcv q1 q2
              refine wp_region_noPanic ?_
              refine wp_region_held_drew (S := (fun w' => w'.cell? ⟨b, 3, none⟩ = some (.slice (some ⟨ba, oa, none⟩) fs.length ac) ∧ w'.cell? ⟨b, 4, none⟩ = some (.int .i64 lim) ∧ w'.cell? ⟨b, 7, none⟩ = some (.int .i64 most) ∧ w'.cell? ⟨ba, oa + k, none⟩ = some (.int .i64 ak))) (by kernel_rfl) ?_ (fun hHeld => ?_)
              · exact ⟨g3, g4, g7, hak⟩
              refine wpAnyH_take (i := 0) (oi := ?o0) (v := ?v0) ?hi0 ?hs0 ?hf0 ?hr0 (fun _ _ _ h => h) ?hy0 (by assumption) ?hh0
              case hi0 => ((simp only [List.getElem?_toArray, List.getElem?_cons_zero]); rfl)
              case hs0 => kernel_rfl
              case hf0 => kernel_rfl
              case hr0 => kernel_rfl
              case hy0 => exact Or.inl ⟨by rfl, by (intro wq hSw; (try dsimp only at hSw); go_simp; (try with_reducible rfl))⟩
              try simp only [Act.put, List.setIfInBounds_toArray, List.set_cons_zero, List.set_cons_succ]
              refine wpAnyH_take (i := 1) (oi := ?o1) (v := ?v1) ?hi1 ?hs1 ?hf1 ?hr1 (fun _ _ _ h => h) ?hy1 (by assumption) ?hh1
              case hi1 => ((simp only [List.getElem?_toArray, List.getElem?_cons_succ, List.getElem?_cons_zero]); rfl)
              case hs1 => kernel_rfl
              case hf1 => kernel_rfl
              case hr1 => kernel_rfl
              case hy1 => exact Or.inl ⟨by rfl, by (intro wq hSw; (try dsimp only at hSw); go_simp; (try with_reducible rfl))⟩
              try simp only [Act.put, List.setIfInBounds_toArray, List.set_cons_zero, List.set_cons_succ]
              refine wpAnyH_take (i := 2) (oi := ?o2) (v := ?v2) ?hi2 ?hs2 ?hf2 ?hr2 (fun _ _ _ h => h) ?hy2 (by assumption) ?hh2
              case hi2 => ((simp only [List.getElem?_toArray, List.getElem?_cons_succ, List.getElem?_cons_zero]); rfl)
              case hs2 => kernel_rfl
              case hf2 => kernel_rfl
              case hr2 => kernel_rfl
              case hy2 => exact Or.inl ⟨by rfl, by (intro wq hSw; (try dsimp only at hSw); go_simp; (try with_reducible rfl))⟩
              try simp only [Act.put, List.setIfInBounds_toArray, List.set_cons_zero, List.set_cons_succ]
              refine wpAnyH_take (i := 3) (oi := ?o3) (v := ?v3) ?hi3 ?hs3 ?hf3 ?hr3 (fun _ _ _ h => h) ?hy3 (by assumption) ?hh3
              case hi3 => ((simp only [List.getElem?_toArray, List.getElem?_cons_succ, List.getElem?_cons_zero]); rfl)
              case hs3 => kernel_rfl
              case hf3 => kernel_rfl
              case hr3 => kernel_rfl
              case hy3 => exact Or.inl ⟨by rfl, by (intro wq hSw; (try dsimp only at hSw); go_simp; (try with_reducible rfl))⟩
              try simp only [Act.put, List.setIfInBounds_toArray, List.set_cons_zero, List.set_cons_succ]
              refine wpAnyH_take (i := 4) (oi := ?o4) (v := ?v4) ?hi4 ?hs4 ?hf4 ?hr4 (fun _ _ _ h => h) ?hy4 (by assumption) ?hh4
              case hi4 => ((simp only [List.getElem?_toArray, List.getElem?_cons_succ, List.getElem?_cons_zero]); rfl)
              case hs4 => kernel_rfl
              case hf4 => kernel_rfl
              case hr4 => kernel_rfl
              case hy4 => exact Or.inl ⟨by rfl, by (intro wq hSw; (try dsimp only at hSw); go_simp; (try with_reducible rfl))⟩
              try simp only [Act.put, List.setIfInBounds_toArray, List.set_cons_zero, List.set_cons_succ]
              refine wpAnyH_take (i := 5) (oi := ?o5) (v := ?v5) ?hi5 ?hs5 ?hf5 ?hr5 (fun _ _ _ h => h) ?hy5 (by assumption) ?hh5
              case hi5 => ((simp only [List.getElem?_toArray, List.getElem?_cons_succ, List.getElem?_cons_zero]); rfl)
              case hs5 => kernel_rfl
              case hf5 => kernel_rfl
              case hr5 => kernel_rfl
              case hy5 => exact Or.inl ⟨by rfl, by (intro wq hSw; (try dsimp only at hSw); go_simp; (try with_reducible rfl))⟩
              try simp only [Act.put, List.setIfInBounds_toArray, List.set_cons_zero, List.set_cons_succ]
              refine wpAnyH_take (i := 6) (oi := ?o6) (v := ?v6) ?hi6 ?hs6 ?hf6 ?hr6 (fun _ _ _ h => h) ?hy6 (by assumption) ?hh6
              case hi6 => ((simp only [List.getElem?_toArray, List.getElem?_cons_succ, List.getElem?_cons_zero]); rfl)
              case hs6 => kernel_rfl
              case hf6 => kernel_rfl
              case hr6 => kernel_rfl
              case hy6 => exact Or.inl ⟨by rfl, by (intro wq hSw; (try dsimp only at hSw); go_simp; (try with_reducible rfl))⟩
              try simp only [Act.put, List.setIfInBounds_toArray, List.set_cons_zero, List.set_cons_succ]
              refine wpAnyH_take (i := 7) (oi := ?o7) (v := ?v7) ?hi7 ?hs7 ?hf7 ?hr7 (fun _ _ _ h => h) ?hy7 (by assumption) ?hh7
              case hi7 => ((simp only [List.getElem?_toArray, List.getElem?_cons_succ, List.getElem?_cons_zero]); rfl)
              case hs7 => kernel_rfl
              case hf7 => kernel_rfl
              case hr7 => kernel_rfl
              case hy7 => exact Or.inl ⟨by rfl, by (intro wq hSw; (try dsimp only at hSw); go_simp; (try with_reducible rfl))⟩
              try simp only [Act.put, List.setIfInBounds_toArray, List.set_cons_zero, List.set_cons_succ]
              refine wpAnyH_take (i := 8) (oi := ?o8) (v := ?v8) ?hi8 ?hs8 ?hf8 ?hr8 (fun _ _ _ h => h) ?hy8 (by assumption) ?hh8
              case hi8 => ((simp only [List.getElem?_toArray, List.getElem?_cons_succ, List.getElem?_cons_zero]); rfl)
              case hs8 => kernel_rfl
              case hf8 => kernel_rfl
              case hr8 => kernel_rfl
              case hy8 => exact Or.inl ⟨by rfl, by (intro wq hSw; (try dsimp only at hSw); go_simp; (try with_reducible rfl))⟩
              try simp only [Act.put, List.setIfInBounds_toArray, List.set_cons_zero, List.set_cons_succ]
              refine wpAnyH_take (i := 9) (oi := ?o9) (v := ?v9) ?hi9 ?hs9 ?hf9 ?hr9 (fun _ _ _ h => h) ?hy9 (by assumption) ?hh9
              case hi9 => ((simp only [List.getElem?_toArray, List.getElem?_cons_succ, List.getElem?_cons_zero]); rfl)
              case hs9 => kernel_rfl
              case hf9 => kernel_rfl
              case hr9 => kernel_rfl
              case hy9 => exact Or.inl ⟨by rfl, by (intro wq hSw; (try dsimp only at hSw); go_simp; (try with_reducible rfl))⟩
              try simp only [Act.put, List.setIfInBounds_toArray, List.set_cons_zero, List.set_cons_succ]
              refine wpAnyH_take (i := 10) (oi := ?o10) (v := ?v10) ?hi10 ?hs10 ?hf10 ?hr10 (fun _ _ _ h => h) ?hy10 (by assumption) ?hh10
              case hi10 => ((simp only [List.getElem?_toArray, List.getElem?_cons_succ, List.getElem?_cons_zero]); rfl)
              case hs10 => kernel_rfl
              case hf10 => kernel_rfl
              case hr10 => kernel_rfl
              case hy10 => exact Or.inl ⟨by rfl, by (intro wq hSw; (try dsimp only at hSw); go_simp; (try with_reducible rfl))⟩
              try simp only [Act.put, List.setIfInBounds_toArray, List.set_cons_zero, List.set_cons_succ]
              refine wpAnyH_take (i := 11) (oi := ?o11) (v := ?v11) ?hi11 ?hs11 ?hf11 ?hr11 (fun _ _ _ h => h) ?hy11 (by assumption) ?hh11
              case hi11 => ((simp only [List.getElem?_toArray, List.getElem?_cons_succ, List.getElem?_cons_zero]); rfl)
              case hs11 => kernel_rfl
              case hf11 => kernel_rfl
              case hr11 => kernel_rfl
              case hy11 => exact Or.inl ⟨by rfl, by (intro wq hSw; (try dsimp only at hSw); go_simp; (try with_reducible rfl))⟩
              try simp only [Act.put, List.setIfInBounds_toArray, List.set_cons_zero, List.set_cons_succ]
              refine wpAnyH_take (i := 12) (oi := ?o12) (v := ?v12) ?hi12 ?hs12 ?hf12 ?hr12 (fun _ _ _ h => h) ?hy12 (by assumption) ?hh12
              case hi12 => ((simp only [List.getElem?_toArray, List.getElem?_cons_succ, List.getElem?_cons_zero]); rfl)
              case hs12 => kernel_rfl
              case hf12 => kernel_rfl
              case hr12 => kernel_rfl
              case hy12 => exact Or.inl ⟨by rfl, by (intro wq hSw; (try dsimp only at hSw); go_simp; (try with_reducible rfl))⟩
              try simp only [Act.put, List.setIfInBounds_toArray, List.set_cons_zero, List.set_cons_succ]
              refine wpAnyH_take (i := 13) (oi := ?o13) (v := ?v13) ?hi13 ?hs13 ?hf13 ?hr13 (fun _ _ _ h => h) ?hy13 (by assumption) ?hh13
              case hi13 => ((simp only [List.getElem?_toArray, List.getElem?_cons_succ, List.getElem?_cons_zero]); rfl)
              case hs13 => kernel_rfl
              case hf13 => kernel_rfl
              case hr13 => kernel_rfl
              case hy13 => exact Or.inl ⟨by rfl, by (intro wq hSw; (try dsimp only at hSw); go_simp; (try with_reducible rfl))⟩
              try simp only [Act.put, List.setIfInBounds_toArray, List.set_cons_zero, List.set_cons_succ]
              refine wpAnyH_take (i := 14) (oi := ?o14) (v := ?v14) ?hi14 ?hs14 ?hf14 ?hr14 (fun _ _ _ h => h) ?hy14 (by assumption) ?hh14
              case hi14 => ((simp only [List.getElem?_toArray, List.getElem?_cons_succ, List.getElem?_cons_zero]); rfl)
              case hs14 => kernel_rfl
              case hf14 => kernel_rfl
              case hr14 => kernel_rfl
              case hy14 => exact Or.inl ⟨by rfl, by (intro wq hSw; (try dsimp only at hSw); go_simp; (try with_reducible rfl))⟩
              try simp only [Act.put, List.setIfInBounds_toArray, List.set_cons_zero, List.set_cons_succ]
              refine wpAnyH_take (i := 15) (oi := ?o15) (v := ?v15) ?hi15 ?hs15 ?hf15 ?hr15 (fun _ _ _ h => h) ?hy15 (by assumption) ?hh15
              case hi15 => ((simp only [List.getElem?_toArray, List.getElem?_cons_succ, List.getElem?_cons_zero]); rfl)
              case hs15 => kernel_rfl
              case hf15 => kernel_rfl
              case hr15 => kernel_rfl
              case hy15 => exact Or.inl ⟨by rfl, by (intro wq hSw; (try dsimp only at hSw); go_simp; (try with_reducible rfl))⟩
              try simp only [Act.put, List.setIfInBounds_toArray, List.set_cons_zero, List.set_cons_succ]
              refine wpAnyH_take (i := 16) (oi := ?o16) (v := ?v16) ?hi16 ?hs16 ?hf16 ?hr16 (fun _ _ _ h => h) ?hy16 (by assumption) ?hh16
              case hi16 => ((simp only [List.getElem?_toArray, List.getElem?_cons_succ, List.getElem?_cons_zero]); rfl)
              case hs16 => kernel_rfl
              case hf16 => kernel_rfl
              case hr16 => kernel_rfl
              case hy16 => exact Or.inl ⟨by rfl, by (intro wq hSw; (try dsimp only at hSw); go_simp; (try with_reducible rfl))⟩
              try simp only [Act.put, List.setIfInBounds_toArray, List.set_cons_zero, List.set_cons_succ]
              refine wpAnyH_take (i := 17) (oi := ?o17) (v := ?v17) ?hi17 ?hs17 ?hf17 ?hr17 (fun _ _ _ h => h) ?hy17 (by assumption) ?hh17
              case hi17 => ((simp only [List.getElem?_toArray, List.getElem?_cons_succ, List.getElem?_cons_zero]); rfl)
              case hs17 => kernel_rfl
              case hf17 => kernel_rfl
              case hr17 => kernel_rfl
              case hy17 => exact Or.inl ⟨by rfl, by (intro wq hSw; (try dsimp only at hSw); go_simp; (try with_reducible rfl))⟩
              try simp only [Act.put, List.setIfInBounds_toArray, List.set_cons_zero, List.set_cons_succ]
              refine wpAnyH_take (i := 18) (oi := ?o18) (v := ?v18) ?hi18 ?hs18 ?hf18 ?hr18 (fun _ _ _ h => h) ?hy18 (by assumption) ?hh18
              case hi18 => ((simp only [List.getElem?_toArray, List.getElem?_cons_succ, List.getElem?_cons_zero]); rfl)
              case hs18 => kernel_rfl
              case hf18 => kernel_rfl
              case hr18 => kernel_rfl
              case hy18 => exact Or.inl ⟨by rfl, by (intro wq hSw; (try dsimp only at hSw); go_simp; (try with_reducible rfl))⟩
              try simp only [Act.put, List.setIfInBounds_toArray, List.set_cons_zero, List.set_cons_succ]
              refine wpAnyH_take (i := 19) (oi := ?o19) (v := ?v19) ?hi19 ?hs19 ?hf19 ?hr19 (fun _ _ _ h => h) ?hy19 (by assumption) ?hh19
              case hi19 => ((simp only [List.getElem?_toArray, List.getElem?_cons_succ, List.getElem?_cons_zero]); rfl)
              case hs19 => kernel_rfl
              case hf19 => kernel_rfl
              case hr19 => kernel_rfl
              case hy19 => exact Or.inl ⟨by rfl, by (intro wq hSw; (try dsimp only at hSw); go_simp; (try with_reducible rfl))⟩
              try simp only [Act.put, List.setIfInBounds_toArray, List.set_cons_zero, List.set_cons_succ]
              refine wpAnyH_take (i := 20) (oi := ?o20) (v := ?v20) ?hi20 ?hs20 ?hf20 ?hr20 (fun _ _ _ h => h) ?hy20 (by assumption) ?hh20
              case hi20 => ((simp only [List.getElem?_toArray, List.getElem?_cons_succ, List.getElem?_cons_zero]); rfl)
              case hs20 => kernel_rfl
              case hf20 => kernel_rfl
              case hr20 => kernel_rfl
              case hy20 => exact Or.inl ⟨by rfl, by (intro wq hSw; (try dsimp only at hSw); go_simp; (try with_reducible rfl))⟩
              try simp only [Act.put, List.setIfInBounds_toArray, List.set_cons_zero, List.set_cons_succ]
              refine wpAnyH_take (i := 21) (oi := ?o21) (v := ?v21) ?hi21 ?hs21 ?hf21 ?hr21 (fun _ _ _ h => h) ?hy21 (by assumption) ?hh21
              case hi21 => ((simp only [List.getElem?_toArray, List.getElem?_cons_succ, List.getElem?_cons_zero]); rfl)
              case hs21 => kernel_rfl
              case hf21 => kernel_rfl
              case hr21 => kernel_rfl
              case hy21 => exact Or.inl ⟨by rfl, by (intro wq hSw; (try dsimp only at hSw); go_simp; (try with_reducible rfl))⟩
              try simp only [Act.put, List.setIfInBounds_toArray, List.set_cons_zero, List.set_cons_succ]
              refine wpAnyH_take (i := 22) (oi := ?o22) (v := ?v22) ?hi22 ?hs22 ?hf22 ?hr22 (fun _ _ _ h => h) ?hy22 (by assumption) ?hh22
              case hi22 => ((simp only [List.getElem?_toArray, List.getElem?_cons_succ, List.getElem?_cons_zero]); rfl)
              case hs22 => kernel_rfl
              case hf22 => kernel_rfl
              case hr22 => kernel_rfl
              case hy22 => exact Or.inl ⟨by rfl, by (intro wq hSw; (try dsimp only at hSw); go_simp; (try with_reducible rfl))⟩
              try simp only [Act.put, List.setIfInBounds_toArray, List.set_cons_zero, List.set_cons_succ]
              refine wpAnyH_take (i := 23) (oi := ?o23) (v := ?v23) ?hi23 ?hs23 ?hf23 ?hr23 (fun _ _ _ h => h) ?hy23 (by assumption) ?hh23
              case hi23 => ((simp only [List.getElem?_toArray, List.getElem?_cons_succ, List.getElem?_cons_zero]); rfl)
              case hs23 => kernel_rfl
              case hf23 => kernel_rfl
              case hr23 => kernel_rfl
              case hy23 => exact Or.inl ⟨by rfl, by (intro wq hSw; (try dsimp only at hSw); go_simp; (try with_reducible rfl))⟩
              try simp only [Act.put, List.setIfInBounds_toArray, List.set_cons_zero, List.set_cons_succ]
              refine wpAnyH_take (i := 24) (oi := ?o24) (v := ?v24) ?hi24 ?hs24 ?hf24 ?hr24 (fun _ _ _ h => h) ?hy24 (by assumption) ?hh24
              case hi24 => ((simp only [List.getElem?_toArray, List.getElem?_cons_succ, List.getElem?_cons_zero]); rfl)
              case hs24 => kernel_rfl
              case hf24 => kernel_rfl
              case hr24 => kernel_rfl
              case hy24 => exact Or.inl ⟨by rfl, by (intro wq hSw; (try dsimp only at hSw); go_simp; (try with_reducible rfl))⟩
              try simp only [Act.put, List.setIfInBounds_toArray, List.set_cons_zero, List.set_cons_succ]
              refine wpAnyH_take (i := 25) (oi := ?o25) (v := ?v25) ?hi25 ?hs25 ?hf25 ?hr25 (fun _ _ _ h => h) ?hy25 (by assumption) ?hh25
              case hi25 => ((simp only [List.getElem?_toArray, List.getElem?_cons_succ, List.getElem?_cons_zero]); rfl)
              case hs25 => kernel_rfl
              case hf25 => kernel_rfl
              case hr25 => kernel_rfl
              case hy25 => exact Or.inl ⟨by rfl, by (intro wq hSw; (try dsimp only at hSw); go_simp; (try with_reducible rfl))⟩
              try simp only [Act.put, List.setIfInBounds_toArray, List.set_cons_zero, List.set_cons_succ]
              refine wpAnyH_take (i := 26) (oi := ?o26) (v := ?v26) ?hi26 ?hs26 ?hf26 ?hr26 (fun _ _ _ h => h) ?hy26 (by assumption) ?hh26
              case hi26 => ((simp only [List.getElem?_toArray, List.getElem?_cons_succ, List.getElem?_cons_zero]); rfl)
              case hs26 => kernel_rfl
              case hf26 => kernel_rfl
              case hr26 => kernel_rfl
              case hy26 => exact Or.inl ⟨by rfl, by (intro wq hSw; (try dsimp only at hSw); go_simp; (try with_reducible rfl))⟩
              try simp only [Act.put, List.setIfInBounds_toArray, List.set_cons_zero, List.set_cons_succ]
              refine wpAnyH_take (i := 27) (oi := ?o27) (v := ?v27) ?hi27 ?hs27 ?hf27 ?hr27 (fun _ _ _ h => h) ?hy27 (by assumption) ?hh27
              case hi27 => ((simp only [List.getElem?_toArray, List.getElem?_cons_succ, List.getElem?_cons_zero]); rfl)
              case hs27 => kernel_rfl
              case hf27 => kernel_rfl
              case hr27 => kernel_rfl
              case hy27 => exact Or.inl ⟨by rfl, by (intro wq hSw; (try dsimp only at hSw); go_simp; (try with_reducible rfl))⟩
              try simp only [Act.put, List.setIfInBounds_toArray, List.set_cons_zero, List.set_cons_succ]
              refine wpAnyH_take (i := 28) (oi := ?o28) (v := ?v28) ?hi28 ?hs28 ?hf28 ?hr28 (fun _ _ _ h => h) ?hy28 (by assumption) ?hh28
              case hi28 => ((simp only [List.getElem?_toArray, List.getElem?_cons_succ, List.getElem?_cons_zero]); rfl)
              case hs28 => kernel_rfl
              case hf28 => kernel_rfl
              case hr28 => kernel_rfl
              case hy28 => exact Or.inl ⟨by rfl, by (intro wq hSw; (try dsimp only at hSw); go_simp; (try with_reducible rfl))⟩
              try simp only [Act.put, List.setIfInBounds_toArray, List.set_cons_zero, List.set_cons_succ]
              refine wpAnyH_ready (rs := [29]) (by kernel_rfl) (by simp) ?_
              refine AllReadyH.cons (o := ?o29) ?hi29 (fun K hK => ?hh29) AllReadyH.nil
              case hi29 => ((simp only [List.getElem?_toArray, List.getElem?_cons_succ, List.getElem?_cons_zero]); rfl)
              go_simp
              refine hK.out _ _ hHeld (fun hHeld2 => ?_)
              clear hK K hHeld
              try simp only [Act.put, List.setIfInBounds_toArray, List.set_cons_zero, List.set_cons_succ]
              refine wpAnyH_take (i := 30) (oi := ?o30) (v := ?v30) ?hi30 ?hs30 ?hf30 ?hr30 (fun _ _ _ h => h) ?hy30 (by assumption) ?hh30
              case hi30 => ((simp only [List.getElem?_toArray, List.getElem?_cons_succ, List.getElem?_cons_zero]); rfl)
              case hs30 => kernel_rfl
              case hf30 => kernel_rfl
              case hr30 => kernel_rfl
              case hy30 => exact Or.inl ⟨by rfl, by (intro wq hSw; (try dsimp only at hSw); go_simp; (try with_reducible rfl))⟩
              try simp only [Act.put, List.setIfInBounds_toArray, List.set_cons_zero, List.set_cons_succ]
              refine wpAnyH_take (i := 31) (oi := ?o31) (v := ?v31) ?hi31 ?hs31 ?hf31 ?hr31 (fun _ _ _ h => h) ?hy31 (by assumption) ?hh31
              case hi31 => ((simp only [List.getElem?_toArray, List.getElem?_cons_succ, List.getElem?_cons_zero]); rfl)
              case hs31 => kernel_rfl
              case hf31 => kernel_rfl
              case hr31 => kernel_rfl
              case hy31 => exact Or.inl ⟨by rfl, by (intro wq hSw; (try dsimp only at hSw); go_simp; (try with_reducible rfl))⟩
              try simp only [Act.put, List.setIfInBounds_toArray, List.set_cons_zero, List.set_cons_succ]
              refine wpAnyH_take (i := 32) (oi := ?o32) (v := ?v32) ?hi32 ?hs32 ?hf32 ?hr32 (fun _ _ _ h => h) ?hy32 (by assumption) ?hh32
              case hi32 => ((simp only [List.getElem?_toArray, List.getElem?_cons_succ, List.getElem?_cons_zero]); rfl)
              case hs32 => kernel_rfl
              case hf32 => kernel_rfl
              case hr32 => kernel_rfl
              case hy32 => exact Or.inl ⟨by rfl, by (intro wq hSw; (try dsimp only at hSw); go_simp; (try with_reducible rfl))⟩
              try simp only [Act.put, List.setIfInBounds_toArray, List.set_cons_zero, List.set_cons_succ]
              refine wpAnyH_take (i := 33) (oi := ?o33) (v := ?v33) ?hi33 ?hs33 ?hf33 ?hr33 (fun _ _ _ h => h) ?hy33 (by assumption) ?hh33
              case hi33 => ((simp only [List.getElem?_toArray, List.getElem?_cons_succ, List.getElem?_cons_zero]); rfl)
              case hs33 => kernel_rfl
              case hf33 => kernel_rfl
              case hr33 => kernel_rfl
              case hy33 => exact Or.inl ⟨by rfl, by (intro wq hSw; (try dsimp only at hSw); go_simp; (try with_reducible rfl))⟩
              try simp only [Act.put, List.setIfInBounds_toArray, List.set_cons_zero, List.set_cons_succ]
              refine wpAnyH_take (i := 34) (oi := ?o34) (v := ?v34) ?hi34 ?hs34 ?hf34 ?hr34 (fun _ _ _ h => h) ?hy34 (by assumption) ?hh34
              case hi34 => ((simp only [List.getElem?_toArray, List.getElem?_cons_succ, List.getElem?_cons_zero]); rfl)
              case hs34 => kernel_rfl
              case hf34 => kernel_rfl
              case hr34 => kernel_rfl
              case hy34 => exact Or.inl ⟨by rfl, by (intro wq hSw; (try dsimp only at hSw); go_simp; (try with_reducible rfl))⟩
              try simp only [Act.put, List.setIfInBounds_toArray, List.set_cons_zero, List.set_cons_succ]
              refine wpAnyH_take (i := 35) (oi := ?o35) (v := ?v35) ?hi35 ?hs35 ?hf35 ?hr35 (fun _ _ _ h => h) ?hy35 (by assumption) ?hh35
              case hi35 => ((simp only [List.getElem?_toArray, List.getElem?_cons_succ, List.getElem?_cons_zero]); rfl)
              case hs35 => kernel_rfl
              case hf35 => kernel_rfl
              case hr35 => kernel_rfl
              case hy35 => exact Or.inl ⟨by rfl, by (intro wq hSw; (try dsimp only at hSw); go_simp; (try with_reducible rfl))⟩
              try simp only [Act.put, List.setIfInBounds_toArray, List.set_cons_zero, List.set_cons_succ]
              refine wpAnyH_ready (rs := [36]) (by kernel_rfl) (by simp) ?_
              refine AllReadyH.cons (o := ?o36) ?hi36 (fun K hK => ?hh36) AllReadyH.nil
              case hi36 => ((simp only [List.getElem?_toArray, List.getElem?_cons_succ, List.getElem?_cons_zero]); rfl)
              go_simp
              (go_at_call 165; refine (HND.out _ (by go_simp) (by go_simp) (by go_simp)).mono ?_; rintro e w3 ⟨rfl, rfl⟩)
              (try go_wp2_with fail)
              refine hK.out _ _ ?_ (fun hHeld3 => ?_)
              · refine ⟨?_, ?_, ?_, ?_⟩ <;> go_simp
              clear hK K hHeld2
              try simp only [Act.put, List.setIfInBounds_toArray, List.set_cons_zero, List.set_cons_succ]
              refine wpAnyH_take (i := 37) (oi := ?o37) (v := ?v37) ?hi37 ?hs37 ?hf37 ?hr37 (fun _ _ _ h => h) ?hy37 (by assumption) ?hh37
              case hi37 => ((simp only [List.getElem?_toArray, List.getElem?_cons_succ, List.getElem?_cons_zero]); rfl)
              case hs37 => kernel_rfl
              case hf37 => kernel_rfl
              case hr37 => kernel_rfl
              case hy37 => exact Or.inl ⟨by rfl, by (intro wq hSw; (try dsimp only at hSw); go_simp; (try with_reducible rfl))⟩
              try simp only [Act.put, List.setIfInBounds_toArray, List.set_cons_zero, List.set_cons_succ]
              refine wpAnyH_done (by kernel_rfl) ?_ _
              refine NoPanic.normal ?_
              all_goals
                go_wp2_with fail
                go_meet
                exact ⟨by rw [HN.out.1], by rw [HN.out.2]; exact hide (by first | exact HS.out.drew.spend | exact HS.out.spend)⟩
            · obtain ⟨n1, n2⟩ := Pu.node_4 (s := ⟨left, false, most, best⟩) hcv rfl hl
              have HN := hide (And.intro n1 n2)
              have HND := hide (fun (W : World) (q0 : W.cell? ⟨b, 0, none⟩ = some (.int .i64 left)) (q1 : W.frozen? ⟨b, 0, none⟩ = false) => node_some b left W hl m0 (by omega) q0 q1)
              have HL0 := hide hl
              clear n1 n2 hc1 hcv q1 q2 hl
              go_region_held3 (fun w' => w'.cell? ⟨b, 1, none⟩ = some (.bool false) ∧ w'.cell? ⟨b, 3, none⟩ = some (.slice (some ⟨ba, oa, none⟩) fs.length ac) ∧ w'.cell? ⟨b, 4, none⟩ = some (.int .i64 lim) ∧ w'.cell? ⟨b, 7, none⟩ = some (.int .i64 most) ∧ w'.cell? ⟨ba, oa + k, none⟩ = some (.int .i64 ak)) ((first | exact ⟨g1, g3, g4, g7, hak⟩ | (go_split_ands; refine ⟨?_, ?_, ?_, ?_, ?_⟩ <;> go_simp))) (first | (go_at_call 165; refine (HND.out _ (by go_simp) (by go_simp)).mono ?_; rintro e w3 ⟨rfl, rfl⟩))
              all_goals
                go_wp2_with fail
                go_meet
                exact ⟨by rw [HN.out.1], by rw [HN.out.2]; exact hide (by first | exact HS.out.drew.count HL0.out | exact HS.out.count HL0.out)⟩
          · obtain ⟨n1, n2⟩ := Pu.node_2 (c := c1) (s := ⟨left, true, most, best⟩) rfl
            have HN := hide (And.intro n1 n2)
            clear n1 n2 hc1 hcv q1 q2
            refine wp_region_kept (by kernel_rfl) (by kernel_rfl) ?_
            intro gc gf gz
            repeat (go_big_quiet_step (fail))
            refine wpQuiet_nil ?_
            intro w2 hw'
            obtain ⟨⟨_, hb2⟩, rfl⟩ := hw'
            clear gc gf gz
            try dsimp only
            have fs2 := hb2.size
            try simp at fs2 hb2
            have HS2 := hide (HS.out.below hb2)
            clear hb2
            go_wp2_with fail
            go_meet
            exact ⟨by rw [HN.out.1], by rw [HN.out.2]; exact HS2⟩
        · have hcv : c1 = false := by rw [hc1]; simp [q2]
          have d1 : decide (sway + ak ≤ lim) = true := by simpa using q1
          have d2 : decide (most < force + fk + rs) = false := by simpa using q2
          obtain ⟨n1, n2⟩ := Pu.node_1 (s := ⟨left, spent, most, best⟩) hcv
          have HN := hide (And.intro n1 n2)
          clear n1 n2 hc1 hcv q1 q2
          refine wp_region_kept (by kernel_rfl) (by kernel_rfl) ?_
          intro gc gf gz
          repeat (go_big_quiet_step (fail))
          refine wpQuiet_nil ?_
          intro w2 hw'
          obtain ⟨⟨_, hb2⟩, rfl⟩ := hw'
          clear gc gf gz
          try dsimp only
          have fs2 := hb2.size
          try simp at fs2 hb2
          have HS2 := hide (HS.out.below hb2)
          clear hb2
          go_wp2_with fail
          go_meet
          exact ⟨by rw [HN.out.1], by rw [HN.out.2]; exact HS2⟩
      · have hcv : c1 = false := by rw [hc1]; simp [q1]
        have d1 : decide (sway + ak ≤ lim) = false := by simpa using q1
        obtain ⟨n1, n2⟩ := Pu.node_1 (s := ⟨left, spent, most, best⟩) hcv
        have HN := hide (And.intro n1 n2)
        clear n1 n2 hc1 hcv q1
        refine wp_region_kept (by kernel_rfl) (by kernel_rfl) ?_
        intro gc gf gz
        repeat (go_big_quiet_step (fail))
        refine wpQuiet_nil ?_
        intro w2 hw'
        obtain ⟨⟨_, hb2⟩, rfl⟩ := hw'
        clear gc gf gz
        try dsimp only
        have fs2 := hb2.size
        try simp at fs2 hb2
        have HS2 := hide (HS.out.below hb2)
        clear hb2
        go_wp2_with fail
        go_meet
        exact ⟨by rw [HN.out.1], by rw [HN.out.2]; exact HS2⟩
    case rest =>
      obtain ⟨w1, rfl⟩ : ∃ w1, w1 = wc := ⟨_, rfl⟩
      obtain ⟨rfl, HS1⟩ := hcut
      have HC1 := hide hc1
      clear HS g0 g1 g2 g3 g4 g7 ff0 ff1 hfk hak kA kR hbl HFW HAW hbq hba hc1
      go_upto_if 89 with fail
      go_cut [] (fun wx => ∃ (tv' : Option Addr) (tc' : Nat) (bv' : Option Addr) (bc' : Nat), Hid (PuI w0 b (some ⟨bq, oq, none⟩) fc (some ⟨ba, oa, none⟩) ac fs.length lim wx tv' tc' taken bv' bc' (Pu.one fs am lim f k taken force sway ⟨left, spent, most, best⟩)))
      case first =>
        cases hnb : Pu.nodeB c1 ⟨left, spent, most, best⟩
        · have HO := hide (show Pu.one fs am lim f k taken force sway ⟨left, spent, most, best⟩ = Pu.nodeS c1 ⟨left, spent, most, best⟩ from by rw [HONE.out]; exact Pu.nodeB_no hnb)
          go_wp2_with fail
          go_meet
          exact ⟨tv, tc, bv, bc, by rw [HO.out]; exact HS1⟩
        · have HO := hide (show Pu.one fs am lim f k taken force sway ⟨left, spent, most, best⟩ = Pu.pull fs am lim f (k + 1) (taken ++ [(k : Int)]) (force + fk) (sway + ak) (Pu.nodeS c1 ⟨left, spent, most, best⟩) from by rw [HONE.out]; exact Pu.nodeB_yes hnb)
          have hsw : sway + ak ≤ lim := by
            have q := hnb
            unfold Pu.nodeB at q
            simp only [Bool.and_eq_true] at q
            have q2 := q.1.1
            rw [HC1.out] at q2
            simp only [Bool.and_eq_true] at q2
            simpa using q2.1
          generalize Pu.nodeS c1 ⟨left, spent, most, best⟩ = s1 at *
          have hst := HS1.out.st
          have g5 : w1.cell? ⟨b, 5, none⟩ = some (.slice tv taken.length tc) := by simp [World.cell?, hst]
          have f5 : w1.frozen? ⟨b, 5, none⟩ = false := by simp [World.frozen?, hst]
          have hbl1 := HS1.out.lt
          clear hst
          have hgz := HS1.out.gr.size
          clear hnb
          go_wp2_with (at_builtin; go_loud (refine wpList_appI_at rfl _ _ rfl w0.heap.size rfl HS1.out.ot rfl (by omega) ?_ ?_; (focus (exact hgz)); intro A8 c8 w8 ho8 hb8 hg8 hat8; have HP8 := hide (HS1.out.push ho8 hb8 hg8 hat8); have g5' : w8.cell? ⟨b, 5, none⟩ = some (.slice tv taken.length tc) := (hb8.cell (p := ⟨b, 5, none⟩) HS1.out.hb).trans g5; have f5' : w8.frozen? ⟨b, 5, none⟩ = false := (hb8.frozen (p := ⟨b, 5, none⟩) HS1.out.hb).trans f5; have hst8 := HP8.out.st; have HAW8 := hide (SlAt.grown HA.out HP8.out.gr (fun b2 off e q => by injection q with q; exact HAN.out b2 off e q)); clear ho8 hb8 hg8 hat8; generalize hw9 : w8.setCell ⟨b, 5, none⟩ (.slice A8 (taken.length + 1) c8) = w9 at HP8 hst8 HAW8; have h3 : w9.cell? ⟨b, 3, none⟩ = some (.slice (some ⟨ba, oa, none⟩) fs.length ac) := by {simp [World.cell?, hst8]}; have h9 : w9.cell? ⟨ba, oa + k, none⟩ = some (.int .i64 ak) := by {obtain ⟨b2, o2, e2, _, hc2⟩ := HAW8.out k (by omega); injection e2 with e2; injection e2 with e3 e4; subst e3; subst e4; have q := hc2 0 _ rfl; simp only [Nat.add_zero, Nat.mul_one] at q; rw [q, HAK.out]}; clear hst8 HAW8; subst hw9))
          clear g5 f5 g5' f5'
          have HP9 := hide HP8.out
          have hq := ih (k + 1) (taken ++ [(k : Int)]) (force + fk) (sway + ak) s1 _ A8 c8 bv bc (by omega) (by omega) (by simp; omega) (by omega) (by rw [show ((k + 1 : Nat) : Int) = (k : Int) + 1 by omega]; omega) (by omega) hsw HP9
          have HQ := hide hq
          clear hq HP8 h3 h9
          rw [show ((k + 1 : Nat) : Int) = (k : Int) + 1 by omega] at HQ
          refine HQ.out.mono ?_
          rintro e w10 ⟨rfl, tv3, tc3, bv3, bc3, hP⟩
          rw [← HO.out] at hP
          generalize Pu.one fs am lim f k taken force sway ⟨left, spent, most, best⟩ = s3 at *
          have HP3 := hide hP
          have hst := hP.st
          obtain ⟨g13, hcv, hcap⟩ := own_cap hP.ot rfl (by simp)
          have hlen : (taken ++ [(k : Int)]).length = taken.length + 1 := by simp
          rw [hlen] at hst hcap
          subst hcv
          have g5 : w10.cell? ⟨b, 5, none⟩ = some (.slice (some ⟨g13, 0, none⟩) (taken.length + 1) tc3) := by simp [World.cell?, hst]
          have f5 : w10.frozen? ⟨b, 5, none⟩ = false := by simp [World.frozen?, hst]
          have hcap2 : taken.length ≤ tc3 := by omega
          have k0' : IntKind.i64.wrap ((taken.length : Int) + 1 - 1) = taken.length := by rw [show (taken.length : Int) + 1 - 1 = taken.length by omega]; exact IntWalk.i64_in _ (by omega)
          clear hP hst HQ HP9
          go_wp2_with fail
          go_region
          all_goals
            go_wp2_with fail
            go_meet
            exact ⟨some ⟨g13, 0, none⟩, tc3, bv3, bc3, hide (by first | exact (HP3.out.below (Below.refl _ _).drew).pop rfl | exact HP3.out.pop rfl)⟩
      case rest =>
        obtain ⟨w2, rfl⟩ : ∃ w2, w2 = wc := ⟨_, rfl⟩
        obtain ⟨tv2, tc2, bv2, bc2, HS2⟩ := hcut
        clear HS1 HONE HC1
        generalize Pu.one fs am lim f k taken force sway ⟨left, spent, most, best⟩ = s2 at *
        obtain ⟨left2, spent2, most2, best2⟩ := s2
        obtain ⟨c2, hc2⟩ : ∃ c2, c2 = decide (most2 < force + rs) := ⟨_, rfl⟩
        have EF := hide (show Pu.pull fs am lim (f + 1) k taken force sway ⟨left, spent, most, best⟩ = Pu.enter c2 (Pu.pull fs am lim f (k + 1) taken force sway) ⟨left2, spent2, most2, best2⟩ from by rw [E1.out, hc2])
        have hst := HS2.out.st
        simp only at hst
        have g0 : w2.cell? ⟨b, 0, none⟩ = some (.int .i64 left2) := by simp [World.cell?, hst]
        have g1 : w2.cell? ⟨b, 1, none⟩ = some (.bool spent2) := by simp [World.cell?, hst]
        have g7 : w2.cell? ⟨b, 7, none⟩ = some (.int .i64 most2) := by simp [World.cell?, hst]
        have ff0 : w2.frozen? ⟨b, 0, none⟩ = false := by simp [World.frozen?, hst]
        have ff1 : w2.frozen? ⟨b, 1, none⟩ = false := by simp [World.frozen?, hst]
        obtain ⟨n0, n1, -⟩ := HS2.out.inv
        simp only at n0 n1
        clear hst E1
        by_cases q1 : most2 < force + rs
        · have hcv : c2 = true := by rw [hc2]; simp [q1]
          cases spent2
          · by_cases hl : left2 = 0
            · obtain ⟨m1, m2⟩ := Pu.node_3 (s := ⟨left2, false, most2, best2⟩) hcv rfl hl
              have HF2 := hide (show Pu.pull fs am lim (f + 1) k taken force sway ⟨left, spent, most, best⟩ = _ from EF.out.trans ((Pu.nodeB_no m1).trans m2))
              subst hl
              have HND := hide (node_none b false w2 g0 g1 ff1)
              clear m1 m2 hc2 hcv
              go_wp2_with (go_at_call 165; refine HND.out.mono ?_; rintro e w3 ⟨rfl, rfl⟩)
              go_end0
              exact ⟨rfl, tv2, tc2, bv2, bc2, by rw [HF2.out]; exact HS2.out.spend⟩
            · obtain ⟨m1, m2⟩ := Pu.node_4 (s := ⟨left2, false, most2, best2⟩) hcv rfl hl
              have HF2 := hide (show Pu.pull fs am lim (f + 1) k taken force sway ⟨left, spent, most, best⟩ = Pu.pull fs am lim f (k + 1) taken force sway ⟨left2 - 1, false, most2, best2⟩ from EF.out.trans ((Pu.nodeB_yes m1).trans (by rw [m2])))
              have HND := hide (node_some b left2 w2 hl n0 (by omega) g0 ff0)
              have HP9 := hide (HS2.out.count hl)
              have hq := ih (k + 1) taken force sway ⟨left2 - 1, false, most2, best2⟩ _ tv2 tc2 bv2 bc2 (by omega) (by omega) (by omega) f0 (by rw [show ((k + 1 : Nat) : Int) = (k : Int) + 1 by omega]; omega) y0 y1 HP9
              rw [show ((k + 1 : Nat) : Int) = (k : Int) + 1 by omega] at hq
              have HQ := hide hq
              clear m1 m2 hc2 hcv hl hq
              go_wp2_with (go_at_call 165; refine HND.out.mono ?_; rintro e w3 ⟨rfl, rfl⟩)
              refine HQ.out.mono ?_
              rintro e w10 ⟨rfl, tv3, tc3, bv3, bc3, hP⟩
              have HP3 := hide hP
              clear hP HQ HP9
              go_wp2_with fail
              go_end0
              exact ⟨rfl, tv3, tc3, bv3, bc3, by rw [HF2.out]; exact HP3.out⟩
          · obtain ⟨m1, m2⟩ := Pu.node_2 (c := c2) (s := ⟨left2, true, most2, best2⟩) rfl
            have HF2 := hide (show Pu.pull fs am lim (f + 1) k taken force sway ⟨left, spent, most, best⟩ = _ from EF.out.trans ((Pu.nodeB_no m1).trans m2))
            clear m1 m2 hc2 hcv
            go_wp2_with fail
            go_end0
            exact ⟨rfl, tv2, tc2, bv2, bc2, by rw [HF2.out]; exact HS2.out⟩
        · have hcv : c2 = false := by rw [hc2]; simp [q1]
          obtain ⟨m1, m2⟩ := Pu.node_1 (s := ⟨left2, spent2, most2, best2⟩) hcv
          have HF2 := hide (show Pu.pull fs am lim (f + 1) k taken force sway ⟨left, spent, most, best⟩ = _ from EF.out.trans ((Pu.nodeB_no m1).trans m2))
          clear m1 m2 hc2 hcv
          go_wp2_with fail
          go_end0
          exact ⟨rfl, tv2, tc2, bv2, bc2, by rw [HF2.out]; exact HS2.out⟩
end Go.Proofs.Ytjklhacffdhgaaa
