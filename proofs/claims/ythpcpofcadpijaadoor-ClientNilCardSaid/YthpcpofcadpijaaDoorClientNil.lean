/- The row of the law ClientNil, and its card: out of its walk and its plain law. -/
import Derived.Test.YthpcpofcadpijaaDoorLAwake
import Derived.Test.YthpcpofcadpijaaDoorCards
import Derived.Test.YthpcpofcadpijaaDoorTie
import Derived.JoinedOf
import Derived.JoinedCond
import Derived.Lay
import Derived.WalkKit
import Derived.ProofKit
import Derived.Deep.DeepHandedRow
import Derived.Deep.DeepWitnessRowRef
import Derived.Lib.LaidTab
namespace Go.Proofs.YthpcpofcadpijaaDoor
open Go.Rf Go.ChangeShapes Go.WideShapes Go.ChangeAt Go.RowKit
theorem clientNil_plain (y : dens [.agg (.pair (.int .i64) (.pair (.int .i64) (.pair (.int .i64) (.agg (.pair (.int .i64) (.pair (.int .i64) (.pair (.agg (.pair (.int .i64) (.agg (.pair (.int .i64) (.pair (.int .i64) (.int .i64)))))) (.int .i64))))))))]) (h : WfL Tryd.prog [.agg (.pair (.int .i64) (.pair (.int .i64) (.pair (.int .i64) (.agg (.pair (.int .i64) (.pair (.int .i64) (.pair (.agg (.pair (.int .i64) (.agg (.pair (.int .i64) (.pair (.int .i64) (.int .i64)))))) (.int .i64))))))))] y) : ∃ n, f5 n y = some true := ⟨18, f5_true 18 (by omega) y⟩
noncomputable abbrev clientNilArgs : Array Value := #[((Tryd.prog.info? 55).bind (·.zero)).getD (.bool false)]
theorem clientNil_laid (os : Os) : laidMet Tryd.prog Rows.clientNilRow.laid ((World.laidAll Tryd.prog os Rows.clientNilRow.laid).forCall (fun _ _ => 0) ⟨#[], clientNilArgs, []⟩).memory :=
  laidMet_laidAll _ (by kernel_rfl) (by kernel_rfl)
set_option maxRecDepth 100000 in
theorem clientNil_lifted (os : Os) (started : os.Started) (H : Type) (enc : TypeId × Value → H) (I : Stop.Interp) :
    ReturnsInHanded {} Tryd.checked os 5 .any ((OpenSpec.ofChange Rows.clientNilSpec).preRow enc Tryd.prog Tryd.f5 Rows.clientNilRow.domain false Rows.clientNilRow.laid) (((OpenSpec.ofChange Rows.clientNilSpec).at I).post enc Tryd.prog Tryd.f5 false true false false) :=
  law_lifted_row (C := Tryd.checked) (s := Rows.clientNilSpec) (ts := [.agg (.pair (.int .i64) (.pair (.int .i64) (.pair (.int .i64) (.agg (.pair (.int .i64) (.pair (.int .i64) (.pair (.agg (.pair (.int .i64) (.agg (.pair (.int .i64) (.pair (.int .i64) (.int .i64)))))) (.int .i64))))))))]) (F := fun n (y : dens [.agg (.pair (.int .i64) (.pair (.int .i64) (.pair (.int .i64) (.agg (.pair (.int .i64) (.pair (.int .i64) (.pair (.agg (.pair (.int .i64) (.agg (.pair (.int .i64) (.pair (.int .i64) (.int .i64)))))) (.int .i64))))))))]) => f5 n y) (by kernel_rfl) started (by kernel_rfl) Tryd.func5 (by kernel_rfl) (by kernel_rfl) (by kernel_rfl) rfl (by kernel_rfl) Tryd.underlying4
    (fun H ds h => match ds, h with
      | [d0], _ => ⟨rfl, rfl, rfl⟩)
    (by kernel_rfl) (by kernel_rfl)
    (witness_row_atRef (enc := enc) (C := Tryd.checked) false (World.laidAll Tryd.prog os Rows.clientNilRow.laid) clientNilArgs (World.laidAll_os _ _ _) (by kernel_rfl) (by kernel_rfl) (by kernel_rfl)
      (OpenSpec.preRow_of_B rfl 8 (by kernel_rfl) (by kernel_rfl) (by rw [MakeChecks.laidMetH_plain _ _ _ (by kernel_rfl)]; exact clientNil_laid os)))
    (fun W0 _ _ n => ok5 n) clientNil_plain
/-- The row of the law. -/
theorem clientNil_said : Rows.ClientNilSaid :=
  OpenClaim.holds_of_cond 5 Tryd.f5 rfl rfl rfl rfl rfl rfl rfl ⟨rfl, rfl, rfl, rfl, rfl⟩ rfl rfl rfl rfl rfl (by kernel_rfl) Tryd.func5 (by kernel_rfl)
    (of_decide_eq_true (by kernel_rfl)) (by unfold Func.isWrapper; first | (rw [if_pos (by decide +kernel)]; kernel_rfl) | (rw [if_neg (by decide +kernel)]; exact ⟨rfl, rfl⟩))
    (fun os started H enc _ F => by rw [OpenClaim.pre_eq_preRow]; exact clientNil_lifted os started H enc F)
theorem clientNil_noStand (f : FuncId) (fn : Func) (hf : Tryd.pinned.checked.prog.funcNamed "convoy/convoylaw21.ClientNil" = some f) (hfn : Tryd.pinned.checked.prog.funcs[f]? = some fn) :
    true = Tryd.pinned.checked.prog.looks [] ∧ ∀ (j : Nat) t, fn.params[j]? = some t → Tryd.pinned.checked.prog.wantsStandIn t = false := by
  obtain rfl : f = 5 := Option.some.inj ((show Tryd.prog.funcNamed "convoy/convoylaw21.ClientNil" = some 5 by kernel_rfl).symm.trans hf) |>.symm
  obtain rfl : fn = Tryd.f5 := (Option.some.inj (Tryd.func5.symm.trans hfn)).symm
  refine ⟨by kernel_rfl, fun j t ht => ?_⟩
  have hall : (Tryd.f5.params.toList.all fun t => !Tryd.prog.wantsStandIn t) = true := by kernel_rfl
  have := List.all_eq_true.1 hall t (by simpa using Array.mem_of_getElem? ht)
  exact (by simpa using this : Tryd.prog.wantsStandIn t = false)
/-- The law ClientNil holds of the program: its card. -/
theorem clientNil_holds : Rows.ClientNilCardSaid :=
  Claim7.holds_tied_plain_at .later [] _ _ _ _ clientNil_said (fun _ h => by cases h) (by kernel_rfl) (fun _ h => by cases h) clientNil_row_tie rfl ⟨rfl, rfl⟩ (by kernel_rfl) rfl clientNil_noStand (by kernel_rfl)
#print axioms clientNil_holds
end Go.Proofs.YthpcpofcadpijaaDoor
