/- The row of the law FailKinds, and its card: out of its walk and its plain law. -/
import Derived.Test.YthdddaikdiaijaaDoorLChecks
import Derived.Test.YthdddaikdiaijaaDoorLWit
import Derived.Test.YthdddaikdiaijaaDoorRfU
import Derived.Test.YthdddaikdiaijaaDoorCards
import Derived.Test.YthdddaikdiaijaaDoorTie
import Derived.JoinedOf
import Derived.JoinedCond
import Derived.Lay
import Derived.WalkKit
import Derived.ProofKit
import Derived.Deep.DeepHandedRow
import Derived.Deep.DeepWitnessRowRef
import Derived.Lib.LaidTab
namespace Go.Proofs.YthdddaikdiaijaaDoor
open Go.Rf Go.ChangeShapes Go.WideShapes Go.ChangeAt Go.RowKit
theorem failKinds_plain (y : dens [(.sl 25 (.agg (.pair (.int .i64) (.pair (.int .i64) (.int .i64)))))]) (h : WfL Tryd.prog [(.sl 25 (.agg (.pair (.int .i64) (.pair (.int .i64) (.int .i64)))))] y) : ∃ n, f3 n y = some true := by
  obtain ⟨_, _, hby⟩ := h
  have e : Tryd.prog.bytesOf 25 = 24 := by kernel_rfl
  have hr : reachBytes = 140737488351232 := by decide
  rw [e, hr] at hby
  exact ⟨_, failKinds y (by omega) _ (Nat.le_refl _)⟩
noncomputable abbrev failKindsArgs : Array Value := #[((Tryd.prog.info? 22).bind (·.zero)).getD (.bool false)]
set_option maxRecDepth 100000 in
theorem failKinds_lifted (os : Os) (started : os.Started) (H : Type) (enc : TypeId × Value → H) (I : Stop.Interp) :
    ReturnsInHanded {} Tryd.checked os 3 .any ((OpenSpec.ofChange Rows.failKindsSpec).preRow enc Tryd.prog Tryd.f3 Rows.failKindsRow.domain false Rows.failKindsRow.laid) (((OpenSpec.ofChange Rows.failKindsSpec).at I).post enc Tryd.prog Tryd.f3 false true false false) :=
  law_lifted_row (C := Tryd.checked) (s := Rows.failKindsSpec) (ts := [(.sl 25 (.agg (.pair (.int .i64) (.pair (.int .i64) (.int .i64)))))]) (F := fun n (y : dens [(.sl 25 (.agg (.pair (.int .i64) (.pair (.int .i64) (.int .i64)))))]) => f3 n y) (by kernel_rfl) started (by kernel_rfl) Tryd.func3 (by kernel_rfl) (by kernel_rfl) (by kernel_rfl) rfl (by kernel_rfl) Tryd.underlying4
    (fun H ds h => match ds, h with
      | [d0], _ => ⟨rfl, rfl, rfl⟩)
    (by kernel_rfl) (by kernel_rfl)
    (witness_row_atRef (enc := enc) (C := Tryd.checked) false (witW os) failKindsArgs (witW_os os) (by kernel_rfl) (by kernel_rfl) (by kernel_rfl)
      (OpenSpec.preRow_of_B rfl 8 (by kernel_rfl) (by kernel_rfl) (witW_met os _)))
    (fun W0 h1 _ n => ok3 (laid_of h1) n) failKinds_plain
/-- The row of the law. -/
theorem failKinds_said : Rows.FailKindsSaid :=
  OpenClaim.holds_of_cond 3 Tryd.f3 rfl rfl rfl rfl rfl rfl rfl ⟨rfl, rfl, rfl, rfl, rfl⟩ rfl rfl rfl rfl rfl (by kernel_rfl) Tryd.func3 (by kernel_rfl)
    (of_decide_eq_true (by kernel_rfl)) (by unfold Func.isWrapper; first | (rw [if_pos (by decide +kernel)]; kernel_rfl) | (rw [if_neg (by decide +kernel)]; exact ⟨rfl, rfl⟩))
    (fun os started H enc _ F => by rw [OpenClaim.pre_eq_preRow]; exact failKinds_lifted os started H enc F)
theorem failKinds_noStand (f : FuncId) (fn : Func) (hf : Tryd.pinned.checked.prog.funcNamed "convoy/convoylaw03.FailKinds" = some f) (hfn : Tryd.pinned.checked.prog.funcs[f]? = some fn) :
    true = Tryd.pinned.checked.prog.looks [] ∧ ∀ (j : Nat) t, fn.params[j]? = some t → Tryd.pinned.checked.prog.wantsStandIn t = false := by
  obtain rfl : f = 3 := Option.some.inj ((show Tryd.prog.funcNamed "convoy/convoylaw03.FailKinds" = some 3 by kernel_rfl).symm.trans hf) |>.symm
  obtain rfl : fn = Tryd.f3 := (Option.some.inj (Tryd.func3.symm.trans hfn)).symm
  refine ⟨by kernel_rfl, fun j t ht => ?_⟩
  have hall : (Tryd.f3.params.toList.all fun t => !Tryd.prog.wantsStandIn t) = true := by kernel_rfl
  have := List.all_eq_true.1 hall t (by simpa using Array.mem_of_getElem? ht)
  exact (by simpa using this : Tryd.prog.wantsStandIn t = false)
/-- The law FailKinds holds of the program: its card. -/
theorem failKinds_holds : Rows.FailKindsCardSaid :=
  Claim7.holds_tied_plain_at .later [] _ _ _ _ failKinds_said (fun _ h => by cases h) (by kernel_rfl) (fun _ h => by cases h) failKinds_row_tie rfl ⟨rfl, rfl⟩ (by kernel_rfl) rfl failKinds_noStand (by kernel_rfl)
#print axioms failKinds_holds
end Go.Proofs.YthdddaikdiaijaaDoor
