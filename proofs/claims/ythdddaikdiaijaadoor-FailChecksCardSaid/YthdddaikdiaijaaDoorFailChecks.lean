/- The row of the law FailChecks, and its card: out of its walk and its plain law. -/
import Derived.Test.YthdddaikdiaijaaDoorLChecks
import Derived.Test.YthdddaikdiaijaaDoorLWit
import Derived.Test.YthdddaikdiaijaaDoorRfU
import Derived.Test.YthdddaikdiaijaaDoorCards
import Derived.Test.YthdddaikdiaijaaDoorTie
import Derived.JoinedOf
import Derived.JoinedCond
import Derived.Lay
import Derived.WalkKit
import Derived.ProofKit
import Derived.Deep.DeepHandedRow
import Derived.Deep.DeepWitnessRowRef
import Derived.Lib.LaidTab
namespace Go.Proofs.YthdddaikdiaijaaDoor
open Go.Rf Go.ChangeShapes Go.WideShapes Go.ChangeAt Go.RowKit
theorem failChecks_plain (y : dens [(.agg (.pair (.int .i64) (.pair (.int .i64) (.int .i64)))), (.agg (.pair (.int .i64) (.pair (.int .i64) (.int .i64)))), (.int .i64)]) (_ : WfL Tryd.prog [(.agg (.pair (.int .i64) (.pair (.int .i64) (.int .i64)))), (.agg (.pair (.int .i64) (.pair (.int .i64) (.int .i64)))), (.int .i64)] y) : ∃ n, f5 n y.1 y.2.1 y.2.2 = some true := ⟨4, failChecks 0 y.1 y.2.1 y.2.2⟩
noncomputable abbrev failChecksArgs : Array Value := #[((Tryd.prog.info? 25).bind (·.zero)).getD (.bool false), ((Tryd.prog.info? 25).bind (·.zero)).getD (.bool false), ((Tryd.prog.info? 2).bind (·.zero)).getD (.bool false)]
set_option maxRecDepth 100000 in
theorem failChecks_lifted (os : Os) (started : os.Started) (H : Type) (enc : TypeId × Value → H) (I : Stop.Interp) :
    ReturnsInHanded {} Tryd.checked os 5 .any ((OpenSpec.ofChange Rows.failChecksSpec).preRow enc Tryd.prog Tryd.f5 Rows.failChecksRow.domain false Rows.failChecksRow.laid) (((OpenSpec.ofChange Rows.failChecksSpec).at I).post enc Tryd.prog Tryd.f5 false true false false) :=
  law_lifted_row (C := Tryd.checked) (s := Rows.failChecksSpec) (ts := [(.agg (.pair (.int .i64) (.pair (.int .i64) (.int .i64)))), (.agg (.pair (.int .i64) (.pair (.int .i64) (.int .i64)))), (.int .i64)]) (F := fun n (y : dens [(.agg (.pair (.int .i64) (.pair (.int .i64) (.int .i64)))), (.agg (.pair (.int .i64) (.pair (.int .i64) (.int .i64)))), (.int .i64)]) => f5 n y.1 y.2.1 y.2.2) (by kernel_rfl) started (by kernel_rfl) Tryd.func5 (by kernel_rfl) (by kernel_rfl) (by kernel_rfl) rfl (by kernel_rfl) Tryd.underlying4
    (fun H ds h => match ds, h with
      | [d0, d1, d2], _ => ⟨rfl, rfl, rfl⟩)
    (by kernel_rfl) (by kernel_rfl)
    (witness_row_atRef (enc := enc) (C := Tryd.checked) false (witW os) failChecksArgs (witW_os os) (by kernel_rfl) (by kernel_rfl) (by kernel_rfl)
      (OpenSpec.preRow_of_B rfl 8 (by kernel_rfl) (by kernel_rfl) (witW_met os _)))
    (fun W0 h1 _ n => ok5 (laid_of h1) n) failChecks_plain
/-- The row of the law. -/
theorem failChecks_said : Rows.FailChecksSaid :=
  OpenClaim.holds_of_cond 5 Tryd.f5 rfl rfl rfl rfl rfl rfl rfl ⟨rfl, rfl, rfl, rfl, rfl⟩ rfl rfl rfl rfl rfl (by kernel_rfl) Tryd.func5 (by kernel_rfl)
    (of_decide_eq_true (by kernel_rfl)) (by unfold Func.isWrapper; first | (rw [if_pos (by decide +kernel)]; kernel_rfl) | (rw [if_neg (by decide +kernel)]; exact ⟨rfl, rfl⟩))
    (fun os started H enc _ F => by rw [OpenClaim.pre_eq_preRow]; exact failChecks_lifted os started H enc F)
theorem failChecks_noStand (f : FuncId) (fn : Func) (hf : Tryd.pinned.checked.prog.funcNamed "convoy/convoylaw03.FailChecks" = some f) (hfn : Tryd.pinned.checked.prog.funcs[f]? = some fn) :
    true = Tryd.pinned.checked.prog.looks [] ∧ ∀ (j : Nat) t, fn.params[j]? = some t → Tryd.pinned.checked.prog.wantsStandIn t = false := by
  obtain rfl : f = 5 := Option.some.inj ((show Tryd.prog.funcNamed "convoy/convoylaw03.FailChecks" = some 5 by kernel_rfl).symm.trans hf) |>.symm
  obtain rfl : fn = Tryd.f5 := (Option.some.inj (Tryd.func5.symm.trans hfn)).symm
  refine ⟨by kernel_rfl, fun j t ht => ?_⟩
  have hall : (Tryd.f5.params.toList.all fun t => !Tryd.prog.wantsStandIn t) = true := by kernel_rfl
  have := List.all_eq_true.1 hall t (by simpa using Array.mem_of_getElem? ht)
  exact (by simpa using this : Tryd.prog.wantsStandIn t = false)
/-- The law FailChecks holds of the program: its card. -/
theorem failChecks_holds : Rows.FailChecksCardSaid :=
  Claim7.holds_tied_plain_at .later [] _ _ _ _ failChecks_said (fun _ h => by cases h) (by kernel_rfl) (fun _ h => by cases h) failChecks_row_tie rfl ⟨rfl, rfl⟩ (by kernel_rfl) rfl failChecks_noStand (by kernel_rfl)
#print axioms failChecks_holds
end Go.Proofs.YthdddaikdiaijaaDoor
