/- The row of the law ClientKeys, and its card: out of its walk and its plain law. -/
import Derived.Test.YthpcpofcadpijaaDoorLKeys
import Derived.Test.YthpcpofcadpijaaDoorCards
import Derived.Test.YthpcpofcadpijaaDoorTie
import Derived.JoinedOf
import Derived.JoinedCond
import Derived.Lay
import Derived.WalkKit
import Derived.ProofKit
import Derived.Deep.DeepHandedRow
import Derived.Deep.DeepWitnessRowRef
import Derived.Lib.LaidTab
namespace Go.Proofs.YthpcpofcadpijaaDoor
open Go.Rf Go.ChangeShapes Go.WideShapes Go.ChangeAt Go.RowKit
theorem clientKeys_plain (y : dens [.sl 29 (.agg (.pair (.int .i64) (.pair (.agg (.pair (.int .u16) .str)) (.pair (.int .i64) (.int .i64)))))]) (h : WfL Tryd.prog [.sl 29 (.agg (.pair (.int .i64) (.pair (.agg (.pair (.int .u16) .str)) (.pair (.int .i64) (.int .i64)))))] y) : ∃ n, f3 n y = some true := by
  obtain ⟨_, _, hb⟩ := h
  have e : Tryd.prog.bytesOf 29 = 48 := by kernel_rfl
  have hr : reachBytes = 140737488351232 := by decide
  rw [e, hr] at hb
  exact ⟨_, law _ y (by omega) (Nat.le_refl _)⟩
noncomputable abbrev clientKeysArgs : Array Value := #[((Tryd.prog.info? 22).bind (·.zero)).getD (.bool false)]
theorem clientKeys_laid (os : Os) : laidMet Tryd.prog Rows.clientKeysRow.laid ((World.laidAll Tryd.prog os Rows.clientKeysRow.laid).forCall (fun _ _ => 0) ⟨#[], clientKeysArgs, []⟩).memory :=
  laidMet_laidAll _ (by kernel_rfl) (by kernel_rfl)
set_option maxRecDepth 100000 in
theorem clientKeys_lifted (os : Os) (started : os.Started) (H : Type) (enc : TypeId × Value → H) (I : Stop.Interp) :
    ReturnsInHanded {} Tryd.checked os 3 .any ((OpenSpec.ofChange Rows.clientKeysSpec).preRow enc Tryd.prog Tryd.f3 Rows.clientKeysRow.domain false Rows.clientKeysRow.laid) (((OpenSpec.ofChange Rows.clientKeysSpec).at I).post enc Tryd.prog Tryd.f3 false true false false) :=
  law_lifted_row (C := Tryd.checked) (s := Rows.clientKeysSpec) (ts := [.sl 29 (.agg (.pair (.int .i64) (.pair (.agg (.pair (.int .u16) .str)) (.pair (.int .i64) (.int .i64)))))]) (F := fun n (y : dens [.sl 29 (.agg (.pair (.int .i64) (.pair (.agg (.pair (.int .u16) .str)) (.pair (.int .i64) (.int .i64)))))]) => f3 n y) (by kernel_rfl) started (by kernel_rfl) Tryd.func3 (by kernel_rfl) (by kernel_rfl) (by kernel_rfl) rfl (by kernel_rfl) Tryd.underlying4
    (fun H ds h => match ds, h with
      | [d0], _ => ⟨rfl, rfl, rfl⟩)
    (by kernel_rfl) (by kernel_rfl)
    (witness_row_atRef (enc := enc) (C := Tryd.checked) false (World.laidAll Tryd.prog os Rows.clientKeysRow.laid) clientKeysArgs (World.laidAll_os _ _ _) (by kernel_rfl) (by kernel_rfl) (by kernel_rfl)
      (OpenSpec.preRow_of_B rfl 8 (by kernel_rfl) (by kernel_rfl) (by rw [MakeChecks.laidMetH_plain _ _ _ (by kernel_rfl)]; exact clientKeys_laid os)))
    (fun W0 _ _ n => ok3 n) clientKeys_plain
/-- The row of the law. -/
theorem clientKeys_said : Rows.ClientKeysSaid :=
  OpenClaim.holds_of_cond 3 Tryd.f3 rfl rfl rfl rfl rfl rfl rfl ⟨rfl, rfl, rfl, rfl, rfl⟩ rfl rfl rfl rfl rfl (by kernel_rfl) Tryd.func3 (by kernel_rfl)
    (of_decide_eq_true (by kernel_rfl)) (by unfold Func.isWrapper; first | (rw [if_pos (by decide +kernel)]; kernel_rfl) | (rw [if_neg (by decide +kernel)]; exact ⟨rfl, rfl⟩))
    (fun os started H enc _ F => by rw [OpenClaim.pre_eq_preRow]; exact clientKeys_lifted os started H enc F)
theorem clientKeys_noStand (f : FuncId) (fn : Func) (hf : Tryd.pinned.checked.prog.funcNamed "convoy/convoylaw21.ClientKeys" = some f) (hfn : Tryd.pinned.checked.prog.funcs[f]? = some fn) :
    true = Tryd.pinned.checked.prog.looks [] ∧ ∀ (j : Nat) t, fn.params[j]? = some t → Tryd.pinned.checked.prog.wantsStandIn t = false := by
  obtain rfl : f = 3 := Option.some.inj ((show Tryd.prog.funcNamed "convoy/convoylaw21.ClientKeys" = some 3 by kernel_rfl).symm.trans hf) |>.symm
  obtain rfl : fn = Tryd.f3 := (Option.some.inj (Tryd.func3.symm.trans hfn)).symm
  refine ⟨by kernel_rfl, fun j t ht => ?_⟩
  have hall : (Tryd.f3.params.toList.all fun t => !Tryd.prog.wantsStandIn t) = true := by kernel_rfl
  have := List.all_eq_true.1 hall t (by simpa using Array.mem_of_getElem? ht)
  exact (by simpa using this : Tryd.prog.wantsStandIn t = false)
/-- The law ClientKeys holds of the program: its card. -/
theorem clientKeys_holds : Rows.ClientKeysCardSaid :=
  Claim7.holds_tied_plain_at .later [] _ _ _ _ clientKeys_said (fun _ h => by cases h) (by kernel_rfl) (fun _ h => by cases h) clientKeys_row_tie rfl ⟨rfl, rfl⟩ (by kernel_rfl) rfl clientKeys_noStand (by kernel_rfl)
#print axioms clientKeys_holds
end Go.Proofs.YthpcpofcadpijaaDoor
