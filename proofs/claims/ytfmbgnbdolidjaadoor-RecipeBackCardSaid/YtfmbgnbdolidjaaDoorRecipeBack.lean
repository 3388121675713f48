/- The row of the law RecipeBack, and its card: out of its walk and its plain law. -/
import Derived.Test.YtfmbgnbdolidjaaDoorRfU
import Derived.Test.YtfmbgnbdolidjaaDoorLBack
import Derived.Test.YtfmbgnbdolidjaaDoorCards
import Derived.Test.YtfmbgnbdolidjaaDoorTie
import Derived.JoinedOf
import Derived.JoinedCond
import Derived.Lay
import Derived.WalkKit
import Derived.ProofKit
import Derived.Deep.DeepHandedRow
import Derived.Deep.DeepWitnessRowRef
import Derived.Lib.LaidTab
import Derived.Stop.LaidErr
namespace Go.Proofs.YtfmbgnbdolidjaaDoor
open Go.Rf Go.ChangeShapes Go.WideShapes Go.ChangeAt Go.RowKit
theorem star : "*" ++ "errors.errorString" = "*errors.errorString" := by decide
theorem row_es (u : TypeId) (h : Tryd.prog.typeName? 3 u = some "*errors.errorString") : u = 159 :=
  typeName_ptr_named (nm := "errors.errorString") (by rw [star]; kernel_rfl) (by kernel_rfl) (by decide) u (by rw [star]; exact h)
/-- The listed variables lie as they are laid. -/
theorem laid_of {W0 : World} (h : laidMetH Tryd.prog Rows.recipeBackRow.laid W0) (hS : W0.ShapedOpen Tryd.prog) : Laid W0 := by
  rw [MakeChecks.laidMetH_plain _ _ _ (by kernel_rfl)] at h
  have h3 : laidMet Tryd.prog [("internal/strconv.uint64pow10", Rows.laid_internal_strconv_uint64pow10), ("unicode/utf8.acceptRanges", Rows.laid_unicode_utf8_acceptRanges), ("strconv.ErrRange", Rows.laid_strconv_ErrRange), ("strconv.ErrSyntax", Rows.laid_strconv_ErrSyntax), ("unicode/utf8.first", Rows.laid_unicode_utf8_first)] W0 := laidMet.tail (laidMet.tail h)
  have h4 := laidMet.tail (laidMet.tail h3)
  have h5 := laidMet.tail h4
  rw [show (Rows.laid_internal_strconv_uint64pow10 : DataW Unit) = Lib.tabData .u64 Lib.pow10Tab by rfl] at h3
  obtain ⟨a0, _, hr, _, _, _⟩ := laid_sentinel h4 (g := 7) (ti := 93) (tp := 159) (te := 161) (ts := 9) (by kernel_rfl) (by kernel_rfl) Tryd.underlying93 row_es Tryd.underlying159 Tryd.underlying161 rfl rfl Tryd.underlying9 (by kernel_rfl) (by kernel_rfl)
  obtain ⟨b0, _, hs, _, _, _⟩ := laid_sentinel h5 (g := 6) (ti := 93) (tp := 159) (te := 161) (ts := 9) (by kernel_rfl) (by kernel_rfl) Tryd.underlying93 row_es Tryd.underlying159 Tryd.underlying161 rfl rfl Tryd.underlying9 (by kernel_rfl) (by kernel_rfl)
  obtain ⟨m, hm⟩ := Tryd.laysM146.s1_3 W0 hS
  exact ⟨Lib.tabIs_of_head (g := 0) (t := 124) (e := 109) (n := 20) (by kernel_rfl) (by kernel_rfl) (by kernel_rfl) (by kernel_rfl) (by kernel_rfl) (by kernel_rfl) h3, ⟨_, _, hr⟩, ⟨_, _, hs⟩, ⟨m, hm⟩⟩
theorem steps_i64 {l : List Step} (h : ∀ x ∈ l, Wf Tryd.prog (.agg (.pair (.int .i64) (.pair (.int .i64) (.int .i64)))) x) : ∀ x ∈ l, i64 x.2.1 ∧ i64 x.2.2 :=
  fun x hx => ⟨wf_i64 (h x hx).2.1, wf_i64 (h x hx).2.2⟩
theorem recipeBack_plain (y : dens [(.sl 55 (.agg (.pair (.int .i64) (.pair (.int .i64) (.int .i64))))), (.agg (.pair (.agg (.pair (.int .u16) .str)) (.pair (.int .i64) .bool)))]) (h : WfL Tryd.prog [(.sl 55 (.agg (.pair (.int .i64) (.pair (.int .i64) (.int .i64))))), (.agg (.pair (.agg (.pair (.int .u16) .str)) (.pair (.int .i64) .bool)))] y) : ∃ n, f4 n y.1 y.2 = some true := by
  obtain ⟨hw1, hw2⟩ := h
  obtain ⟨_, hall, _⟩ := hw1
  have hk : y.2.1.2.size ≤ reachBytes := hw2.1.2
  exact ⟨y.2.1.2.size + 10000, recipe_back (steps_i64 hall) hk (Nat.le_refl _)⟩
noncomputable abbrev recipeBackArgs : Array Value := #[((Tryd.prog.info? 22).bind (·.zero)).getD (.bool false), ((Tryd.prog.info? 42).bind (·.zero)).getD (.bool false)]
theorem recipeBack_laid (os : Os) : laidMet Tryd.prog Rows.recipeBackRow.laid ((World.laidAll Tryd.prog os Rows.recipeBackRow.laid).forCall (fun _ _ => 0) ⟨#[], recipeBackArgs, []⟩).memory :=
  laidMet_laidAll _ (by kernel_rfl) (by kernel_rfl)
set_option maxRecDepth 100000 in
theorem recipeBack_lifted (os : Os) (started : os.Started) (H : Type) (enc : TypeId × Value → H) (I : Stop.Interp) :
    ReturnsInHanded {} Tryd.checked os 4 .any ((OpenSpec.ofChange Rows.recipeBackSpec).preRow enc Tryd.prog Tryd.f4 Rows.recipeBackRow.domain false Rows.recipeBackRow.laid) (((OpenSpec.ofChange Rows.recipeBackSpec).at I).post enc Tryd.prog Tryd.f4 false true false false) :=
  law_lifted_row (C := Tryd.checked) (s := Rows.recipeBackSpec) (ts := [(.sl 55 (.agg (.pair (.int .i64) (.pair (.int .i64) (.int .i64))))), (.agg (.pair (.agg (.pair (.int .u16) .str)) (.pair (.int .i64) .bool)))]) (F := fun n (y : dens [(.sl 55 (.agg (.pair (.int .i64) (.pair (.int .i64) (.int .i64))))), (.agg (.pair (.agg (.pair (.int .u16) .str)) (.pair (.int .i64) .bool)))]) => f4 n y.1 y.2) (by kernel_rfl) started (by kernel_rfl) Tryd.func4 (by kernel_rfl) (by kernel_rfl) (by kernel_rfl) rfl (by kernel_rfl) Tryd.underlying4
    (fun H ds h => match ds, h with
      | [d0, d1], _ => ⟨rfl, rfl, rfl⟩)
    (by kernel_rfl) (by kernel_rfl)
    (witness_row_atRef (enc := enc) (C := Tryd.checked) false (World.laidAll Tryd.prog os Rows.recipeBackRow.laid) recipeBackArgs (World.laidAll_os _ _ _) (by kernel_rfl) (by kernel_rfl) (by kernel_rfl)
      (OpenSpec.preRow_of_B rfl 8 (by kernel_rfl) (by kernel_rfl) (by rw [MakeChecks.laidMetH_plain _ _ _ (by kernel_rfl)]; exact recipeBack_laid os)))
    (fun W0 h1 h2 n => ok4 (laid_of h1 h2) n) recipeBack_plain
/-- The row of the law. -/
theorem recipeBack_said : Rows.RecipeBackSaid :=
  OpenClaim.holds_of_cond 4 Tryd.f4 rfl rfl rfl rfl rfl rfl rfl ⟨rfl, rfl, rfl, rfl, rfl⟩ rfl rfl rfl rfl rfl (by kernel_rfl) Tryd.func4 (by kernel_rfl)
    (of_decide_eq_true (by kernel_rfl)) (by unfold Func.isWrapper; first | (rw [if_pos (by decide +kernel)]; kernel_rfl) | (rw [if_neg (by decide +kernel)]; exact ⟨rfl, rfl⟩))
    (fun os started H enc _ F => by rw [OpenClaim.pre_eq_preRow]; exact recipeBack_lifted os started H enc F)
theorem recipeBack_noStand (f : FuncId) (fn : Func) (hf : Tryd.pinned.checked.prog.funcNamed "convoy/convoylaw08.RecipeBack" = some f) (hfn : Tryd.pinned.checked.prog.funcs[f]? = some fn) :
    true = Tryd.pinned.checked.prog.looks [] ∧ ∀ (j : Nat) t, fn.params[j]? = some t → Tryd.pinned.checked.prog.wantsStandIn t = false := by
  obtain rfl : f = 4 := Option.some.inj ((show Tryd.prog.funcNamed "convoy/convoylaw08.RecipeBack" = some 4 by kernel_rfl).symm.trans hf) |>.symm
  obtain rfl : fn = Tryd.f4 := (Option.some.inj (Tryd.func4.symm.trans hfn)).symm
  refine ⟨by kernel_rfl, fun j t ht => ?_⟩
  have hall : (Tryd.f4.params.toList.all fun t => !Tryd.prog.wantsStandIn t) = true := by kernel_rfl
  have := List.all_eq_true.1 hall t (by simpa using Array.mem_of_getElem? ht)
  exact (by simpa using this : Tryd.prog.wantsStandIn t = false)
/-- The law RecipeBack holds of the program: its card. -/
theorem recipeBack_holds : Rows.RecipeBackCardSaid :=
  Claim7.holds_tied_plain_at .later [] _ _ _ _ recipeBack_said (fun _ h => by cases h) (by kernel_rfl) (fun _ h => by cases h) recipeBack_row_tie rfl ⟨rfl, rfl⟩ (by kernel_rfl) rfl recipeBack_noStand (by kernel_rfl)
#print axioms recipeBack_holds
end Go.Proofs.YtfmbgnbdolidjaaDoor
