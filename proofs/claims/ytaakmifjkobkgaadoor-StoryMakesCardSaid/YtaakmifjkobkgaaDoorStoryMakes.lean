/- The row of the law StoryMakes, and its card: out of its walk and its plain law. -/
import Derived.Test.YtaakmifjkobkgaaDoorRfU
import Derived.Test.YtaakmifjkobkgaaDoorLLaw
import Derived.Test.YtaakmifjkobkgaaDoorCards
import Derived.Test.YtaakmifjkobkgaaDoorTie
import Derived.JoinedOf
import Derived.JoinedCond
import Derived.Lay
import Derived.WalkKit
import Derived.ProofKit
import Derived.Deep.DeepHandedRow
import Derived.Deep.DeepWitnessRowRef
import Derived.Lib.LaidTab
import Derived.Stop.LaidErr
namespace Go.Proofs.YtaakmifjkobkgaaDoor
open Go.Rf Go.ChangeShapes Go.WideShapes Go.ChangeAt Go.RowKit
/-- The listed variables lie as they are laid: so does the table of powers. -/
theorem laid_of {W0 : World} (h : laidMetH Tryd.prog Rows.storyMakesRow.laid W0) : Laid W0 := by
  rw [MakeChecks.laidMetH_plain _ _ _ (by kernel_rfl)] at h
  have h3 : laidMet Tryd.prog [("internal/strconv.uint64pow10", Rows.laid_internal_strconv_uint64pow10)] W0 := laidMet.tail (laidMet.tail h)
  rw [show (Rows.laid_internal_strconv_uint64pow10 : DataW Unit) = Lib.tabData .u64 Lib.pow10Tab by rfl] at h3
  exact Lib.tabIs_of_head (g := 0) (t := 164) (e := 27) (n := 20) (by kernel_rfl) (by kernel_rfl) (by kernel_rfl) (by kernel_rfl) (by kernel_rfl) (by kernel_rfl) h3
theorem storyMakes_plain (y : dens [(.agg (.pair (.int .i64) (.pair (.int .i64) (.pair (.int .i64) (.pair (.int .i64) (.pair (.int .i64) (.int .u64))))))), (.agg (.pair (.int .i64) (.pair (.int .i64) (.pair (.int .i64) (.pair (.int .i64) (.pair (.int .i64) (.pair (.int .i64) (.int .i64))))))))]) (h : WfL Tryd.prog [(.agg (.pair (.int .i64) (.pair (.int .i64) (.pair (.int .i64) (.pair (.int .i64) (.pair (.int .i64) (.int .u64))))))), (.agg (.pair (.int .i64) (.pair (.int .i64) (.pair (.int .i64) (.pair (.int .i64) (.pair (.int .i64) (.pair (.int .i64) (.int .i64))))))))] y) : ∃ n, f5 n y.1 y.2 = some true := ⟨20000, makes_true 20000 (by omega) y.1 y.2⟩
noncomputable abbrev storyMakesArgs : Array Value := #[((Tryd.prog.info? 40).bind (·.zero)).getD (.bool false), ((Tryd.prog.info? 42).bind (·.zero)).getD (.bool false)]
theorem storyMakes_laid (os : Os) : laidMet Tryd.prog Rows.storyMakesRow.laid ((World.laidAll Tryd.prog os Rows.storyMakesRow.laid).forCall (fun _ _ => 0) ⟨#[], storyMakesArgs, []⟩).memory :=
  laidMet_laidAll _ (by kernel_rfl) (by kernel_rfl)
set_option maxRecDepth 100000 in
theorem storyMakes_lifted (os : Os) (started : os.Started) (H : Type) (enc : TypeId × Value → H) (I : Stop.Interp) :
    ReturnsInHanded {} Tryd.checked os 5 .any ((OpenSpec.ofChange Rows.storyMakesSpec).preRow enc Tryd.prog Tryd.f5 Rows.storyMakesRow.domain false Rows.storyMakesRow.laid) (((OpenSpec.ofChange Rows.storyMakesSpec).at I).post enc Tryd.prog Tryd.f5 false true false false) :=
  law_lifted_row (C := Tryd.checked) (s := Rows.storyMakesSpec) (ts := [(.agg (.pair (.int .i64) (.pair (.int .i64) (.pair (.int .i64) (.pair (.int .i64) (.pair (.int .i64) (.int .u64))))))), (.agg (.pair (.int .i64) (.pair (.int .i64) (.pair (.int .i64) (.pair (.int .i64) (.pair (.int .i64) (.pair (.int .i64) (.int .i64))))))))]) (F := fun n (y : dens [(.agg (.pair (.int .i64) (.pair (.int .i64) (.pair (.int .i64) (.pair (.int .i64) (.pair (.int .i64) (.int .u64))))))), (.agg (.pair (.int .i64) (.pair (.int .i64) (.pair (.int .i64) (.pair (.int .i64) (.pair (.int .i64) (.pair (.int .i64) (.int .i64))))))))]) => f5 n y.1 y.2) (by kernel_rfl) started (by kernel_rfl) Tryd.func5 (by kernel_rfl) (by kernel_rfl) (by kernel_rfl) rfl (by kernel_rfl) Tryd.underlying4
    (fun H ds h => match ds, h with
      | [d0, d1], _ => ⟨rfl, rfl, rfl⟩)
    (by kernel_rfl) (by kernel_rfl)
    (witness_row_atRef (enc := enc) (C := Tryd.checked) false (World.laidAll Tryd.prog os Rows.storyMakesRow.laid) storyMakesArgs (World.laidAll_os _ _ _) (by kernel_rfl) (by kernel_rfl) (by kernel_rfl)
      (OpenSpec.preRow_of_B rfl 8 (by kernel_rfl) (by kernel_rfl) (by rw [MakeChecks.laidMetH_plain _ _ _ (by kernel_rfl)]; exact storyMakes_laid os)))
    (fun W0 h1 _ n => ok5 (laid_of h1) n) storyMakes_plain
/-- The row of the law. -/
theorem storyMakes_said : Rows.StoryMakesSaid :=
  OpenClaim.holds_of_cond 5 Tryd.f5 rfl rfl rfl rfl rfl rfl rfl ⟨rfl, rfl, rfl, rfl, rfl⟩ rfl rfl rfl rfl rfl (by kernel_rfl) Tryd.func5 (by kernel_rfl)
    (of_decide_eq_true (by kernel_rfl)) (by unfold Func.isWrapper; first | (rw [if_pos (by decide +kernel)]; kernel_rfl) | (rw [if_neg (by decide +kernel)]; exact ⟨rfl, rfl⟩))
    (fun os started H enc _ F => by rw [OpenClaim.pre_eq_preRow]; exact storyMakes_lifted os started H enc F)
theorem storyMakes_noStand (f : FuncId) (fn : Func) (hf : Tryd.pinned.checked.prog.funcNamed "convoy/convoylaw29.StoryMakes" = some f) (hfn : Tryd.pinned.checked.prog.funcs[f]? = some fn) :
    false = Tryd.pinned.checked.prog.looks [] ∧ ∀ (j : Nat) t, fn.params[j]? = some t → Tryd.pinned.checked.prog.wantsStandIn t = false := by
  obtain rfl : f = 5 := Option.some.inj ((show Tryd.prog.funcNamed "convoy/convoylaw29.StoryMakes" = some 5 by kernel_rfl).symm.trans hf) |>.symm
  obtain rfl : fn = Tryd.f5 := (Option.some.inj (Tryd.func5.symm.trans hfn)).symm
  refine ⟨by kernel_rfl, fun j t ht => ?_⟩
  have hall : (Tryd.f5.params.toList.all fun t => !Tryd.prog.wantsStandIn t) = true := by kernel_rfl
  have := List.all_eq_true.1 hall t (by simpa using Array.mem_of_getElem? ht)
  exact (by simpa using this : Tryd.prog.wantsStandIn t = false)
/-- The law StoryMakes holds of the program: its card. -/
theorem storyMakes_holds : Rows.StoryMakesCardSaid :=
  Claim7.holds_tied_plain_at .later [] _ _ _ _ storyMakes_said (fun _ h => by cases h) (by kernel_rfl) (fun _ h => by cases h) storyMakes_row_tie rfl ⟨rfl, rfl⟩ (by kernel_rfl) rfl storyMakes_noStand (by kernel_rfl)
#print axioms storyMakes_holds
end Go.Proofs.YtaakmifjkobkgaaDoor
