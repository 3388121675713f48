/- The row of the law RetryWaits: out of its walk and its plain law. -/
import Derived.Test.YtnlnfmakcnadlaaLRetry
import Derived.Test.YtnlnfmakcnadlaaRows
import Derived.JoinedOf
namespace Go.Proofs.Ytnlnfmakcnadlaa
open Go.Rf Go.ChangeShapes Go.WideShapes Go.ChangeAt Go.RowKit
theorem retryWaits_plain (y : dens [(.agg (.pair (.int .i64) (.pair (.int .i64) (.pair (.int .i64) (.int .i64))))), (.int .i64), (.int .u64)]) (h : WfL [(.agg (.pair (.int .i64) (.pair (.int .i64) (.pair (.int .i64) (.int .i64))))), (.int .i64), (.int .u64)] y) : ∃ n, f7 n y.1 y.2.1 y.2.2 = some true := by
  obtain ⟨r, a, s⟩ := y
  obtain ⟨⟨h1, h2, _⟩, _⟩ := h
  exact ⟨200, retry_waits (Nat.le_refl _) (wf_i64 h1) (wf_i64 h2)⟩
theorem retryWaits_lifted (os : Os) (started : os.Started) (H : Type) (enc : TypeId × Value → H) :
    ReturnsInHanded {} Try.checked os 7 .any (Rows.retryWaitsSpec.pre6 enc Try.prog Try.f7 Rows.retryWaitsRow.domain false) (Rows.retryWaitsSpec.post enc Try.prog Try.f7 false true false false) :=
  law_lifted (C := Try.checked) (ts := [(.agg (.pair (.int .i64) (.pair (.int .i64) (.pair (.int .i64) (.int .i64))))), (.int .i64), (.int .u64)]) (F := fun n (y : dens [(.agg (.pair (.int .i64) (.pair (.int .i64) (.pair (.int .i64) (.int .i64))))), (.int .i64), (.int .u64)]) => f7 n y.1 y.2.1 y.2.2) (by kernel_rfl) started (by kernel_rfl) Try.func7 (by kernel_rfl) (by kernel_rfl) (by kernel_rfl) rfl (by kernel_rfl) Try.underlying4
    (fun H ds h => match ds, h with
      | [d0, d1, d2], _ => ⟨rfl, rfl, rfl⟩)
    (by kernel_rfl) (by kernel_rfl)
    (ChangeSpec.witness6 (enc := enc) (C := Try.checked) false ⟨#[], #[.agg #[.int .i64 0, .int .i64 0, .int .i64 0, .int .i64 0], .int .i64 0, .int .u64 0], []⟩ 8 (by kernel_rfl) (by kernel_rfl) (by kernel_rfl) (by kernel_rfl))
    (fun n => ok7 n) retryWaits_plain
/-- The law RetryWaits holds of the program. -/
theorem retryWaits_holds : Rows.RetryWaitsSaid :=
  OpenClaim.holds_of_wide 7 Try.f7 rfl rfl rfl rfl rfl rfl rfl ⟨rfl, rfl, rfl, rfl, rfl⟩ rfl rfl rfl rfl rfl (by kernel_rfl) Try.func7 (by kernel_rfl)
    (of_decide_eq_true (by kernel_rfl)) (by unfold Func.isWrapper; first | (rw [if_pos (by decide +kernel)]; kernel_rfl) | (rw [if_neg (by decide +kernel)]; exact ⟨rfl, rfl⟩))
    (fun os started H enc _ => retryWaits_lifted os started H enc)
end Go.Proofs.Ytnlnfmakcnadlaa
