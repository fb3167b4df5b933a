/- The frame of a law's row that lists variables of the library's: out of what is laid, what a walk leans on; the row's claim out of a walk; the witness. -/
import Derived.Test.YtajodbhbmfjmjaaGreatDoorFrame
import Derived.Test.YtajodbhbmfjmjaaGreatDoorEnv
import Derived.LaidMore
import Derived.HandedShaped
import Derived.Stop.Joined
import Derived.Stop.LaidErr
import Derived.Shelf.Vars
import Derived.LaidHandle
import Derived.Lay
namespace Go.Proofs.YtajodbhbmfjmjaaGreatDoor
open Go.RowKit Go.ChangeShapes Go.WideShapes Go.ChangeAt Go.Joins Go.Deep

/-- What the three tables give. -/
theorem env_of_tabs {W : World} {a b : String × DataW Unit} {r : List (String × DataW Unit)} (h : laidMet Tryz.prog (a :: b :: ("internal/strconv.uint64pow10", Rows.laid_internal_strconv_uint64pow10) :: r) W) : EnvT W :=
  ⟨Lib.tabIs_of_head (n := 20) (e := 68) (k := .u64) (zs := Lib.pow10Tab) (rest := r) (g := 3) (t := 135) (by kernel_rfl) (by kernel_rfl) (by kernel_rfl) (by kernel_rfl) (by kernel_rfl) (by kernel_rfl)
    (show laidMet Tryz.prog (("internal/strconv.uint64pow10", Lib.tabData .u64 Lib.pow10Tab) :: r) W from (show (Rows.laid_internal_strconv_uint64pow10 : DataW Unit) = Lib.tabData .u64 Lib.pow10Tab by kernel_rfl) ▸ h.tail.tail)⟩

theorem star_err : "*" ++ "errors.errorString" = "*errors.errorString" := by decide
theorem row_err (u : TypeId) (h : Tryz.prog.typeName? 3 u = some "*errors.errorString") : u = 143 :=
  typeName_ptr_named (nm := "errors.errorString") (by rw [star_err]; kernel_rfl) (by kernel_rfl) (by decide) u (by rw [star_err]; exact h)
/-- What all listed variables give. -/
theorem env_of_all {W : World} {a b d : String × DataW Unit} {r : List (String × DataW Unit)} (hsh : W.ShapedOpen Tryz.prog)
    (h : laidMet Tryz.prog (a :: b :: ("internal/strconv.uint64pow10", Rows.laid_internal_strconv_uint64pow10) :: d :: ("strconv.ErrRange", Rows.laid_strconv_ErrRange) :: ("strconv.ErrSyntax", Rows.laid_strconv_ErrSyntax) :: r) W) : Env W where
  t := env_of_tabs h
  er := by
    obtain ⟨a0, s0, hv, -, -, -⟩ := laid_sentinel h.tail.tail.tail.tail (g := 2) (ti := 79) (te := 145) (ts := 9) (by kernel_rfl) (by kernel_rfl) Tryz.underlying79 row_err Tryz.underlying143 Tryz.underlying145 rfl rfl Tryz.underlying9 (by kernel_rfl) (by kernel_rfl)
    exact ⟨_, _, hv⟩
  es := by
    obtain ⟨a0, s0, hv, -, -, -⟩ := laid_sentinel h.tail.tail.tail.tail.tail (g := 1) (ti := 79) (te := 145) (ts := 9) (by kernel_rfl) (by kernel_rfl) Tryz.underlying79 row_err Tryz.underlying143 Tryz.underlying145 rfl rfl Tryz.underlying9 (by kernel_rfl) (by kernel_rfl)
    exact ⟨_, _, hv⟩
  ml := cell_of_shapedOpen_int (zero := #[.int .i64 0]) (t := 3) hsh (of_decide_eq_true (by kernel_rfl)) (by kernel_rfl) (by kernel_rfl) (by kernel_rfl) (by kernel_rfl) Tryz.underlying3
def LawWalkL (laid : List (String × DataW Unit)) (F : FuncId) (f : Func) : Prop := ∀ (H : Type) (enc : TypeId × Value → H) (W : World) (base : Nat) (args : Array Value) (ds : List (DataW H)) (p : List MemPlace),
  W.ShapedOpen Tryz.prog → laidMetH Tryz.prog laid W →
  (∀ (j : Nat) t v, f.params[j]? = some t → args[j]? = some v → Value.okWide Tryz.prog W .any base t v) → DataW.TrodAll enc Tryz.prog W 0 (fun _ => true) true f.params.toList args.toList ds p →
  Calls Tryz.prog F args W fun e w' => e = .returned (.bool true) ∧ Below W.heap.size W w'
section
variable {H : Type} {enc : TypeId × Value → H}
set_option maxRecDepth 100000 in
theorem law_lift_laid {laid : List (String × DataW Unit)} {F : FuncId} {f : Func} {s : ChangeSpec} {os : Os} (started : os.Started) (H : Type) (enc : TypeId × Value → H) (noInit : Tryz.prog.inits.idxOf? F = none) (hfn : Tryz.prog.funcs[F]? = some f)
    (witness : ∃ (w : World) (tape : Tape) (i : Input), w.os = os ∧ (w.forCall tape i).Shaped Tryz.checked.prog ∧ i.vars = [] ∧ Input.okWide Tryz.checked.prog (w.forCall tape i) .any w.heap.size F i ∧
      ((s.pre enc Tryz.checked.prog f [] false (w.forCall tape i).memory i.args ∧ laidMetH Tryz.prog laid (w.forCall tape i).memory) ∧ sizedMet enc Tryz.checked.prog f (OpenSpec.ofChange s) false (w.forCall tape i).memory i.args) ∧
      ({} : Assume).holds Tryz.checked.prog (lone (Frame.enter Tryz.checked.prog F i.args .normal) [] (w.forCall tape i)))
    (hvars : s.vars = []) (hres : f.resultTypes = #[4]) (hspec : ∀ ds : List (DataW H), ds.length = f.params.toList.length → s.fn H ds = { results := [.lit (.bool true)], args := ds })
    (hread : (f.params.toList.all fun t => Tryz.prog.readableRec t && decide (t < Tryz.prog.types.size)) = true) (walk : LawWalkL laid F f) :
    ReturnsInHanded {} Tryz.checked os F .any (fun w args => (s.pre enc Tryz.prog f [] false w args ∧ laidMetH Tryz.prog laid w) ∧ sizedMet enc Tryz.prog f (OpenSpec.ofChange s) false w args) (s.post enc Tryz.prog f false true false false) := by
  refine returnsInHanded_of_calls own started noInit witness ?_
  intro w tape i _ hsh _ hok hpre hholds
  obtain ⟨_, _, _, fn', hfn', _, _, _, _, hval0⟩ := hok
  have e : fn' = f := Option.some.inj (hfn'.symm.trans hfn)
  subst e
  obtain ⟨⟨⟨ds, gs, before, hw, hc⟩, hx⟩, hz⟩ := hpre
  have hW := DataW.Whole.of_heap (w' := w.forCall tape i) (by rfl) hw
  have hL := hx.of_heap (w' := w.forCall tape i) (by rfl)
  generalize w.forCall tape i = W at *
  have hW' := hW
  obtain ⟨p, q, hA0, hV, rfl, hfz, hnd⟩ := hW
  rw [hvars] at hV
  obtain ⟨rfl, rfl⟩ := trodVars_none hV
  simp only [List.append_nil] at hW'
  have hlen : ∀ (ts : List TypeId) (vs : List Value) (ds : List (DataW H)) (ps : List MemPlace), DataW.TrodAll enc Tryz.checked.prog W 0 (fun _ => true) true ts vs ds ps → ds.length = ts.length := by
    intro ts
    induction ts with
    | nil => intro vs ds ps h; obtain ⟨_, rfl, _⟩ := trodAll_nil h; rfl
    | cons t ts ih => intro vs ds ps h; obtain ⟨v, vs', d, ds', p, q, rfl, rfl, rfl, _, hrest⟩ := trodAll_cons h; simp [ih _ _ _ hrest]
  have hsp := hspec ds (hlen _ _ _ _ hA0)
  refine (walk H enc W _ i.args ds p hsh hL hval0 hA0).mono fun e W' ⟨he, hb⟩ => ?_
  subst he
  refine ChangeSpec.post_blind (post_of_below (pa := p) (pv := []) hW' ?_ ?_ ?_ (by simp) hb ?_)
  · intro b sp hd
    rw [List.append_nil, hsp, hres]
    exact trodAll_cons_mk (shut_bool Tryz.underlying4 _) trodAll_mk0
  · intro sp hs
    rw [List.append_nil, hsp]
    exact trodAll_below laidOut hb _ _ _ _ hread hA0 (fun x hx => hW'.lt x hx) sp hs
  · intro sp _
    rw [List.append_nil, hsp, hvars]
    exact rfl
  · exact ok_one hres rfl (okWide_bool_mk Tryz.underlying4 _)
end
end Go.Proofs.YtajodbhbmfjmjaaGreatDoor
