/- The row of the law ClientPlays, and its card: out of its walk and its plain law. -/
import Derived.Test.YthpcpofcadpijaaDoorLPlays
import Derived.Test.YthpcpofcadpijaaDoorCards
import Derived.Test.YthpcpofcadpijaaDoorTie
import Derived.JoinedOf
import Derived.JoinedCond
import Derived.Lay
import Derived.WalkKit
import Derived.ProofKit
import Derived.Deep.DeepHandedRow
import Derived.Deep.DeepWitnessRowRef
import Derived.Lib.LaidTab
namespace Go.Proofs.YthpcpofcadpijaaDoor
open Go.Rf Go.ChangeShapes Go.WideShapes Go.ChangeAt Go.RowKit
theorem clientPlays_plain (y : dens [.sl 29 (.agg (.pair (.int .i64) (.pair (.agg (.pair (.int .u16) .str)) (.pair (.int .i64) (.int .i64))))), .sl 55 (.agg (.pair (.int .i64) (.pair (.int .i64) (.pair (.int .i64) (.agg (.pair (.int .i64) (.pair (.int .i64) (.pair (.agg (.pair (.int .i64) (.agg (.pair (.int .i64) (.pair (.int .i64) (.int .i64)))))) (.int .i64)))))))))]) (h : WfL Tryd.prog [.sl 29 (.agg (.pair (.int .i64) (.pair (.agg (.pair (.int .u16) .str)) (.pair (.int .i64) (.int .i64))))), .sl 55 (.agg (.pair (.int .i64) (.pair (.int .i64) (.pair (.int .i64) (.agg (.pair (.int .i64) (.pair (.int .i64) (.pair (.agg (.pair (.int .i64) (.agg (.pair (.int .i64) (.pair (.int .i64) (.int .i64)))))) (.int .i64)))))))))] y) : ∃ n, f4 n y.1 y.2 = some true := by
  obtain ⟨⟨_, _, hb⟩, ⟨_, _, hc⟩⟩ := h
  have e : Tryd.prog.bytesOf 29 = 48 := by kernel_rfl
  have e2 : Tryd.prog.bytesOf 55 = 80 := by kernel_rfl
  have hr : reachBytes = 140737488351232 := by decide
  rw [e, hr] at hb
  rw [e2, hr] at hc
  exact ⟨_, plays _ y.1 (by omega) y.2 (by omega) (Nat.le_refl _)⟩
noncomputable abbrev clientPlaysArgs : Array Value := #[((Tryd.prog.info? 22).bind (·.zero)).getD (.bool false), ((Tryd.prog.info? 32).bind (·.zero)).getD (.bool false)]
theorem clientPlays_laid (os : Os) : laidMet Tryd.prog Rows.clientPlaysRow.laid ((World.laidAll Tryd.prog os Rows.clientPlaysRow.laid).forCall (fun _ _ => 0) ⟨#[], clientPlaysArgs, []⟩).memory :=
  laidMet_laidAll _ (by kernel_rfl) (by kernel_rfl)
set_option maxRecDepth 100000 in
theorem clientPlays_lifted (os : Os) (started : os.Started) (H : Type) (enc : TypeId × Value → H) (I : Stop.Interp) :
    ReturnsInHanded {} Tryd.checked os 4 .any ((OpenSpec.ofChange Rows.clientPlaysSpec).preRow enc Tryd.prog Tryd.f4 Rows.clientPlaysRow.domain false Rows.clientPlaysRow.laid) (((OpenSpec.ofChange Rows.clientPlaysSpec).at I).post enc Tryd.prog Tryd.f4 false true false false) :=
  law_lifted_row (C := Tryd.checked) (s := Rows.clientPlaysSpec) (ts := [.sl 29 (.agg (.pair (.int .i64) (.pair (.agg (.pair (.int .u16) .str)) (.pair (.int .i64) (.int .i64))))), .sl 55 (.agg (.pair (.int .i64) (.pair (.int .i64) (.pair (.int .i64) (.agg (.pair (.int .i64) (.pair (.int .i64) (.pair (.agg (.pair (.int .i64) (.agg (.pair (.int .i64) (.pair (.int .i64) (.int .i64)))))) (.int .i64)))))))))]) (F := fun n (y : dens [.sl 29 (.agg (.pair (.int .i64) (.pair (.agg (.pair (.int .u16) .str)) (.pair (.int .i64) (.int .i64))))), .sl 55 (.agg (.pair (.int .i64) (.pair (.int .i64) (.pair (.int .i64) (.agg (.pair (.int .i64) (.pair (.int .i64) (.pair (.agg (.pair (.int .i64) (.agg (.pair (.int .i64) (.pair (.int .i64) (.int .i64)))))) (.int .i64)))))))))]) => f4 n y.1 y.2) (by kernel_rfl) started (by kernel_rfl) Tryd.func4 (by kernel_rfl) (by kernel_rfl) (by kernel_rfl) rfl (by kernel_rfl) Tryd.underlying4
    (fun H ds h => match ds, h with
      | [d0, d1], _ => ⟨rfl, rfl, rfl⟩)
    (by kernel_rfl) (by kernel_rfl)
    (witness_row_atRef (enc := enc) (C := Tryd.checked) false (World.laidAll Tryd.prog os Rows.clientPlaysRow.laid) clientPlaysArgs (World.laidAll_os _ _ _) (by kernel_rfl) (by kernel_rfl) (by kernel_rfl)
      (OpenSpec.preRow_of_B rfl 8 (by kernel_rfl) (by kernel_rfl) (by rw [MakeChecks.laidMetH_plain _ _ _ (by kernel_rfl)]; exact clientPlays_laid os)))
    (fun W0 _ _ n => ok4 n) clientPlays_plain
/-- The row of the law. -/
theorem clientPlays_said : Rows.ClientPlaysSaid :=
  OpenClaim.holds_of_cond 4 Tryd.f4 rfl rfl rfl rfl rfl rfl rfl ⟨rfl, rfl, rfl, rfl, rfl⟩ rfl rfl rfl rfl rfl (by kernel_rfl) Tryd.func4 (by kernel_rfl)
    (of_decide_eq_true (by kernel_rfl)) (by unfold Func.isWrapper; first | (rw [if_pos (by decide +kernel)]; kernel_rfl) | (rw [if_neg (by decide +kernel)]; exact ⟨rfl, rfl⟩))
    (fun os started H enc _ F => by rw [OpenClaim.pre_eq_preRow]; exact clientPlays_lifted os started H enc F)
theorem clientPlays_noStand (f : FuncId) (fn : Func) (hf : Tryd.pinned.checked.prog.funcNamed "convoy/convoylaw21.ClientPlays" = some f) (hfn : Tryd.pinned.checked.prog.funcs[f]? = some fn) :
    true = Tryd.pinned.checked.prog.looks [] ∧ ∀ (j : Nat) t, fn.params[j]? = some t → Tryd.pinned.checked.prog.wantsStandIn t = false := by
  obtain rfl : f = 4 := Option.some.inj ((show Tryd.prog.funcNamed "convoy/convoylaw21.ClientPlays" = some 4 by kernel_rfl).symm.trans hf) |>.symm
  obtain rfl : fn = Tryd.f4 := (Option.some.inj (Tryd.func4.symm.trans hfn)).symm
  refine ⟨by kernel_rfl, fun j t ht => ?_⟩
  have hall : (Tryd.f4.params.toList.all fun t => !Tryd.prog.wantsStandIn t) = true := by kernel_rfl
  have := List.all_eq_true.1 hall t (by simpa using Array.mem_of_getElem? ht)
  exact (by simpa using this : Tryd.prog.wantsStandIn t = false)
/-- The law ClientPlays holds of the program: its card. -/
theorem clientPlays_holds : Rows.ClientPlaysCardSaid :=
  Claim7.holds_tied_plain_at .later [] _ _ _ _ clientPlays_said (fun _ h => by cases h) (by kernel_rfl) (fun _ h => by cases h) clientPlays_row_tie rfl ⟨rfl, rfl⟩ (by kernel_rfl) rfl clientPlays_noStand (by kernel_rfl)
#print axioms clientPlays_holds
end Go.Proofs.YthpcpofcadpijaaDoor
