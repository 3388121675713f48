/- The row of the law StoryNames, and its card: out of its walk and its plain law. -/
import Derived.Test.YtaakmifjkobkgaaDoorLNames
import Derived.Test.YtaakmifjkobkgaaDoorCards
import Derived.Test.YtaakmifjkobkgaaDoorTie
import Derived.JoinedOf
import Derived.JoinedCond
import Derived.Lay
import Derived.WalkKit
import Derived.ProofKit
import Derived.Deep.DeepHandedRow
import Derived.Deep.DeepWitnessRowRef
import Derived.Lib.LaidTab
namespace Go.Proofs.YtaakmifjkobkgaaDoor
open Go.Rf Go.ChangeShapes Go.WideShapes Go.ChangeAt Go.RowKit
theorem storyNames_plain (y : dens [.int .i64, .str]) (h : WfL Tryd.prog [.int .i64, .str] y) : ∃ n, f3 n y.1 y.2 = some true := ⟨10, law 0 y.1 y.2⟩
noncomputable abbrev storyNamesArgs : Array Value := #[((Tryd.prog.info? 3).bind (·.zero)).getD (.bool false), ((Tryd.prog.info? 9).bind (·.zero)).getD (.bool false)]
theorem storyNames_laid (os : Os) : laidMet Tryd.prog Rows.storyNamesRow.laid ((World.laidAll Tryd.prog os Rows.storyNamesRow.laid).forCall (fun _ _ => 0) ⟨#[], storyNamesArgs, []⟩).memory :=
  laidMet_laidAll _ (by kernel_rfl) (by kernel_rfl)
set_option maxRecDepth 100000 in
theorem storyNames_lifted (os : Os) (started : os.Started) (H : Type) (enc : TypeId × Value → H) (I : Stop.Interp) :
    ReturnsInHanded {} Tryd.checked os 3 .any ((OpenSpec.ofChange Rows.storyNamesSpec).preRow enc Tryd.prog Tryd.f3 Rows.storyNamesRow.domain false Rows.storyNamesRow.laid) (((OpenSpec.ofChange Rows.storyNamesSpec).at I).post enc Tryd.prog Tryd.f3 false true false false) :=
  law_lifted_row (C := Tryd.checked) (s := Rows.storyNamesSpec) (ts := [.int .i64, .str]) (F := fun n (y : dens [.int .i64, .str]) => f3 n y.1 y.2) (by kernel_rfl) started (by kernel_rfl) Tryd.func3 (by kernel_rfl) (by kernel_rfl) (by kernel_rfl) rfl (by kernel_rfl) Tryd.underlying4
    (fun H ds h => match ds, h with
      | [d0, d1], _ => ⟨rfl, rfl, rfl⟩)
    (by kernel_rfl) (by kernel_rfl)
    (witness_row_atRef (enc := enc) (C := Tryd.checked) false (World.laidAll Tryd.prog os Rows.storyNamesRow.laid) storyNamesArgs (World.laidAll_os _ _ _) (by kernel_rfl) (by kernel_rfl) (by kernel_rfl)
      (OpenSpec.preRow_of_B rfl 8 (by kernel_rfl) (by kernel_rfl) (by rw [MakeChecks.laidMetH_plain _ _ _ (by kernel_rfl)]; exact storyNames_laid os)))
    (fun W0 _ _ n => ok3 n) storyNames_plain
/-- The row of the law. -/
theorem storyNames_said : Rows.StoryNamesSaid :=
  OpenClaim.holds_of_cond 3 Tryd.f3 rfl rfl rfl rfl rfl rfl rfl ⟨rfl, rfl, rfl, rfl, rfl⟩ rfl rfl rfl rfl rfl (by kernel_rfl) Tryd.func3 (by kernel_rfl)
    (of_decide_eq_true (by kernel_rfl)) (by unfold Func.isWrapper; first | (rw [if_pos (by decide +kernel)]; kernel_rfl) | (rw [if_neg (by decide +kernel)]; exact ⟨rfl, rfl⟩))
    (fun os started H enc _ F => by rw [OpenClaim.pre_eq_preRow]; exact storyNames_lifted os started H enc F)
theorem storyNames_noStand (f : FuncId) (fn : Func) (hf : Tryd.pinned.checked.prog.funcNamed "convoy/convoylaw29.StoryNames" = some f) (hfn : Tryd.pinned.checked.prog.funcs[f]? = some fn) :
    false = Tryd.pinned.checked.prog.looks [] ∧ ∀ (j : Nat) t, fn.params[j]? = some t → Tryd.pinned.checked.prog.wantsStandIn t = false := by
  obtain rfl : f = 3 := Option.some.inj ((show Tryd.prog.funcNamed "convoy/convoylaw29.StoryNames" = some 3 by kernel_rfl).symm.trans hf) |>.symm
  obtain rfl : fn = Tryd.f3 := (Option.some.inj (Tryd.func3.symm.trans hfn)).symm
  refine ⟨by kernel_rfl, fun j t ht => ?_⟩
  have hall : (Tryd.f3.params.toList.all fun t => !Tryd.prog.wantsStandIn t) = true := by kernel_rfl
  have := List.all_eq_true.1 hall t (by simpa using Array.mem_of_getElem? ht)
  exact (by simpa using this : Tryd.prog.wantsStandIn t = false)
/-- The law StoryNames holds of the program: its card. -/
theorem storyNames_holds : Rows.StoryNamesCardSaid :=
  Claim7.holds_tied_plain_at .later [] _ _ _ _ storyNames_said (fun _ h => by cases h) (by kernel_rfl) (fun _ h => by cases h) storyNames_row_tie rfl ⟨rfl, rfl⟩ (by kernel_rfl) rfl storyNames_noStand (by kernel_rfl)
#print axioms storyNames_holds
end Go.Proofs.YtaakmifjkobkgaaDoor
