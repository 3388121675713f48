/- The row of the law RetryNil: out of its walk and its plain law. -/
import Derived.Test.YtnlnfmakcnadlaaLNil
import Derived.Test.YtnlnfmakcnadlaaRows
import Derived.JoinedOf
namespace Go.Proofs.Ytnlnfmakcnadlaa
open Go.Rf Go.ChangeShapes Go.WideShapes Go.ChangeAt Go.RowKit
theorem retryNil_plain (y : dens [(.agg (.pair (.int .i64) (.int .i64)))]) (h : WfL [(.agg (.pair (.int .i64) (.int .i64)))] y) : ∃ n, f14 n y = some true := ⟨0, retry_nil 0 y⟩
theorem retryNil_lifted (os : Os) (started : os.Started) (H : Type) (enc : TypeId × Value → H) :
    ReturnsInHanded {} Try.checked os 14 .any (Rows.retryNilSpec.pre6 enc Try.prog Try.f14 Rows.retryNilRow.domain false) (Rows.retryNilSpec.post enc Try.prog Try.f14 false true false false) :=
  law_lifted (C := Try.checked) (ts := [(.agg (.pair (.int .i64) (.int .i64)))]) (F := fun n (y : dens [(.agg (.pair (.int .i64) (.int .i64)))]) => f14 n y) (by kernel_rfl) started (by kernel_rfl) Try.func14 (by kernel_rfl) (by kernel_rfl) (by kernel_rfl) rfl (by kernel_rfl) Try.underlying4
    (fun H ds h => match ds, h with
      | [d0], _ => ⟨rfl, rfl, rfl⟩)
    (by kernel_rfl) (by kernel_rfl)
    (ChangeSpec.witness6 (enc := enc) (C := Try.checked) false ⟨#[], #[.agg #[.int .i64 0, .int .i64 0]], []⟩ 8 (by kernel_rfl) (by kernel_rfl) (by kernel_rfl) (by kernel_rfl))
    (fun n => ok14 n) retryNil_plain
/-- The law RetryNil holds of the program. -/
theorem retryNil_holds : Rows.RetryNilSaid :=
  OpenClaim.holds_of_wide 14 Try.f14 rfl rfl rfl rfl rfl rfl rfl ⟨rfl, rfl, rfl, rfl, rfl⟩ rfl rfl rfl rfl rfl (by kernel_rfl) Try.func14 (by kernel_rfl)
    (of_decide_eq_true (by kernel_rfl)) (by unfold Func.isWrapper; first | (rw [if_pos (by decide +kernel)]; kernel_rfl) | (rw [if_neg (by decide +kernel)]; exact ⟨rfl, rfl⟩))
    (fun os started H enc _ => retryNil_lifted os started H enc)
end Go.Proofs.Ytnlnfmakcnadlaa
