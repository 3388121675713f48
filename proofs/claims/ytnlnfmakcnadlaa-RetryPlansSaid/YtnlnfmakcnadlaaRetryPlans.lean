/- The row of the law RetryPlans: out of its walk and its plain law. -/
import Derived.Test.YtnlnfmakcnadlaaLPlans
import Derived.Test.YtnlnfmakcnadlaaRows
import Derived.JoinedOf
namespace Go.Proofs.Ytnlnfmakcnadlaa
open Go.Rf Go.ChangeShapes Go.WideShapes Go.ChangeAt Go.RowKit
theorem retryPlans_plain (y : dens [(.agg (.pair (.int .i64) (.pair (.int .i64) (.pair (.int .i64) (.int .i64))))), (.int .u64)]) (h : WfL [(.agg (.pair (.int .i64) (.pair (.int .i64) (.pair (.int .i64) (.int .i64))))), (.int .u64)] y) : ∃ n, f13 n y.1 y.2 = some true := by
  obtain ⟨r, s⟩ := y
  obtain ⟨⟨h1, h2, _⟩, _⟩ := h
  exact ⟨200, retry_plans (Nat.le_refl _) (wf_i64 h1) (wf_i64 h2)⟩
theorem retryPlans_lifted (os : Os) (started : os.Started) (H : Type) (enc : TypeId × Value → H) :
    ReturnsInHanded {} Try.checked os 13 .any (Rows.retryPlansSpec.pre6 enc Try.prog Try.f13 Rows.retryPlansRow.domain false) (Rows.retryPlansSpec.post enc Try.prog Try.f13 false true false false) :=
  law_lifted (C := Try.checked) (ts := [(.agg (.pair (.int .i64) (.pair (.int .i64) (.pair (.int .i64) (.int .i64))))), (.int .u64)]) (F := fun n (y : dens [(.agg (.pair (.int .i64) (.pair (.int .i64) (.pair (.int .i64) (.int .i64))))), (.int .u64)]) => f13 n y.1 y.2) (by kernel_rfl) started (by kernel_rfl) Try.func13 (by kernel_rfl) (by kernel_rfl) (by kernel_rfl) rfl (by kernel_rfl) Try.underlying4
    (fun H ds h => match ds, h with
      | [d0, d1], _ => ⟨rfl, rfl, rfl⟩)
    (by kernel_rfl) (by kernel_rfl)
    (ChangeSpec.witness6 (enc := enc) (C := Try.checked) false ⟨#[], #[.agg #[.int .i64 0, .int .i64 0, .int .i64 0, .int .i64 0], .int .u64 0], []⟩ 8 (by kernel_rfl) (by kernel_rfl) (by kernel_rfl) (by kernel_rfl))
    (fun n => ok13 n) retryPlans_plain
/-- The law RetryPlans holds of the program. -/
theorem retryPlans_holds : Rows.RetryPlansSaid :=
  OpenClaim.holds_of_wide 13 Try.f13 rfl rfl rfl rfl rfl rfl rfl ⟨rfl, rfl, rfl, rfl, rfl⟩ rfl rfl rfl rfl rfl (by kernel_rfl) Try.func13 (by kernel_rfl)
    (of_decide_eq_true (by kernel_rfl)) (by unfold Func.isWrapper; first | (rw [if_pos (by decide +kernel)]; kernel_rfl) | (rw [if_neg (by decide +kernel)]; exact ⟨rfl, rfl⟩))
    (fun os started H enc _ => retryPlans_lifted os started H enc)
end Go.Proofs.Ytnlnfmakcnadlaa
