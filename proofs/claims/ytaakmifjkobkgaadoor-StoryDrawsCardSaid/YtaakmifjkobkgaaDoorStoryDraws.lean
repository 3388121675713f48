/- The row of the law StoryDraws, and its card: out of its walk and its plain law. -/
import Derived.Test.YtaakmifjkobkgaaDoorRfU
import Derived.Test.YtaakmifjkobkgaaDoorGb
import Derived.Test.YtaakmifjkobkgaaDoorLDraws
import Derived.Test.YtaakmifjkobkgaaDoorCards
import Derived.Test.YtaakmifjkobkgaaDoorTie
import Derived.JoinedOf
import Derived.JoinedCond
import Derived.Lay
import Derived.WalkKit
import Derived.ProofKit
import Derived.Deep.DeepHandedRow
import Derived.Deep.DeepWitnessRowRef
import Derived.Lib.LaidTab
import Derived.Stop.LaidErr
namespace Go.Proofs.YtaakmifjkobkgaaDoor
open Go.Rf Go.ChangeShapes Go.WideShapes Go.ChangeAt Go.RowKit
/-- The listed variables lie as they are laid: so does the table of powers. -/
theorem laid_of {W0 : World} (h : laidMetH Tryd.prog Rows.storyDrawsRow.laid W0) : Laid W0 := by
  rw [MakeChecks.laidMetH_plain _ _ _ (by kernel_rfl)] at h
  have h3 : laidMet Tryd.prog [("internal/strconv.uint64pow10", Rows.laid_internal_strconv_uint64pow10)] W0 := laidMet.tail (laidMet.tail h)
  rw [show (Rows.laid_internal_strconv_uint64pow10 : DataW Unit) = Lib.tabData .u64 Lib.pow10Tab by rfl] at h3
  exact Lib.tabIs_of_head (g := 0) (t := 164) (e := 27) (n := 20) (by kernel_rfl) (by kernel_rfl) (by kernel_rfl) (by kernel_rfl) (by kernel_rfl) (by kernel_rfl) h3
theorem storyDraws_plain (y : dens [.int .i64, .int .i64, .int .u64]) (h : WfL Tryd.prog [.int .i64, .int .i64, .int .u64] y) : ∃ n, f4 n y.1 y.2.1 y.2.2 = some true := ⟨140000, draws_true 140000 (by omega) (wf_i64 (h.1)) (wf_i64 (h.2.1)) y.2.2⟩
noncomputable abbrev storyDrawsArgs : Array Value := #[((Tryd.prog.info? 3).bind (·.zero)).getD (.bool false), ((Tryd.prog.info? 3).bind (·.zero)).getD (.bool false), ((Tryd.prog.info? 27).bind (·.zero)).getD (.bool false)]
theorem storyDraws_laid (os : Os) : laidMet Tryd.prog Rows.storyDrawsRow.laid ((World.laidAll Tryd.prog os Rows.storyDrawsRow.laid).forCall (fun _ _ => 0) ⟨#[], storyDrawsArgs, []⟩).memory :=
  laidMet_laidAll _ (by kernel_rfl) (by kernel_rfl)
set_option maxRecDepth 100000 in
theorem storyDraws_lifted (os : Os) (started : os.Started) (H : Type) (enc : TypeId × Value → H) (I : Stop.Interp) :
    ReturnsInHanded {} Tryd.checked os 4 .any ((OpenSpec.ofChange Rows.storyDrawsSpec).preRow enc Tryd.prog Tryd.f4 Rows.storyDrawsRow.domain false Rows.storyDrawsRow.laid) (((OpenSpec.ofChange Rows.storyDrawsSpec).at I).post enc Tryd.prog Tryd.f4 false true false false) :=
  law_lifted_row (C := Tryd.checked) (s := Rows.storyDrawsSpec) (ts := [.int .i64, .int .i64, .int .u64]) (F := fun n (y : dens [.int .i64, .int .i64, .int .u64]) => f4 n y.1 y.2.1 y.2.2) (by kernel_rfl) started (by kernel_rfl) Tryd.func4 (by kernel_rfl) (by kernel_rfl) (by kernel_rfl) rfl (by kernel_rfl) Tryd.underlying4
    (fun H ds h => match ds, h with
      | [d0, d1, d2], _ => ⟨rfl, rfl, rfl⟩)
    (by kernel_rfl) (by kernel_rfl)
    (witness_row_atRef (enc := enc) (C := Tryd.checked) false (World.laidAll Tryd.prog os Rows.storyDrawsRow.laid) storyDrawsArgs (World.laidAll_os _ _ _) (by kernel_rfl) (by kernel_rfl) (by kernel_rfl)
      (OpenSpec.preRow_of_B rfl 8 (by kernel_rfl) (by kernel_rfl) (by rw [MakeChecks.laidMetH_plain _ _ _ (by kernel_rfl)]; exact storyDraws_laid os)))
    (fun W0 h1 _ n => ok4 (laid_of h1) n) storyDraws_plain
/-- The row of the law. -/
theorem storyDraws_said : Rows.StoryDrawsSaid :=
  OpenClaim.holds_of_cond 4 Tryd.f4 rfl rfl rfl rfl rfl rfl rfl ⟨rfl, rfl, rfl, rfl, rfl⟩ rfl rfl rfl rfl rfl (by kernel_rfl) Tryd.func4 (by kernel_rfl)
    (of_decide_eq_true (by kernel_rfl)) (by unfold Func.isWrapper; first | (rw [if_pos (by decide +kernel)]; kernel_rfl) | (rw [if_neg (by decide +kernel)]; exact ⟨rfl, rfl⟩))
    (fun os started H enc _ F => by rw [OpenClaim.pre_eq_preRow]; exact storyDraws_lifted os started H enc F)
theorem storyDraws_noStand (f : FuncId) (fn : Func) (hf : Tryd.pinned.checked.prog.funcNamed "convoy/convoylaw29.StoryDraws" = some f) (hfn : Tryd.pinned.checked.prog.funcs[f]? = some fn) :
    false = Tryd.pinned.checked.prog.looks [] ∧ ∀ (j : Nat) t, fn.params[j]? = some t → Tryd.pinned.checked.prog.wantsStandIn t = false := by
  obtain rfl : f = 4 := Option.some.inj ((show Tryd.prog.funcNamed "convoy/convoylaw29.StoryDraws" = some 4 by kernel_rfl).symm.trans hf) |>.symm
  obtain rfl : fn = Tryd.f4 := (Option.some.inj (Tryd.func4.symm.trans hfn)).symm
  refine ⟨by kernel_rfl, fun j t ht => ?_⟩
  have hall : (Tryd.f4.params.toList.all fun t => !Tryd.prog.wantsStandIn t) = true := by kernel_rfl
  have := List.all_eq_true.1 hall t (by simpa using Array.mem_of_getElem? ht)
  exact (by simpa using this : Tryd.prog.wantsStandIn t = false)
/-- The law StoryDraws holds of the program: its card. -/
theorem storyDraws_holds : Rows.StoryDrawsCardSaid :=
  Claim7.holds_tied_plain_at .later [] _ _ _ _ storyDraws_said (fun _ h => by cases h) (by kernel_rfl) (fun _ h => by cases h) storyDraws_row_tie rfl ⟨rfl, rfl⟩ (by kernel_rfl) rfl storyDraws_noStand (by kernel_rfl)
#print axioms storyDraws_holds
end Go.Proofs.YtaakmifjkobkgaaDoor
