/- The row of the law RetryBreaks: out of its walk and its plain law. -/
import Derived.Test.YtnlnfmakcnadlaaLBreaks
import Derived.Test.YtnlnfmakcnadlaaRows
import Derived.JoinedOf
namespace Go.Proofs.Ytnlnfmakcnadlaa
open Go.Rf Go.ChangeShapes Go.WideShapes Go.ChangeAt Go.RowKit
theorem retryBreaks_plain (y : dens [(.int .i64), (.int .i64), (.sl 104 (.agg (.pair (.int .i64) (.int .i64))))]) (h : WfL Try.prog [(.int .i64), (.int .i64), (.sl 104 (.agg (.pair (.int .i64) (.int .i64))))] y) : ∃ n, f15 n y.1 y.2.1 y.2.2 = some true := by
  obtain ⟨fails, cool, l⟩ := y
  obtain ⟨_, _, hl, _, _⟩ := h
  rw [maxLen_eq] at hl
  exact ⟨l.length * 4 + 10, retry_breaks hl (Nat.le_refl _) fails cool⟩
theorem retryBreaks_lifted (os : Os) (started : os.Started) (H : Type) (enc : TypeId × Value → H) :
    ReturnsInHanded {} Try.checked os 15 .any (Rows.retryBreaksSpec.pre6 enc Try.prog Try.f15 Rows.retryBreaksRow.domain false) (Rows.retryBreaksSpec.post enc Try.prog Try.f15 false true false false) :=
  law_lifted (C := Try.checked) (ts := [(.int .i64), (.int .i64), (.sl 104 (.agg (.pair (.int .i64) (.int .i64))))]) (F := fun n (y : dens [(.int .i64), (.int .i64), (.sl 104 (.agg (.pair (.int .i64) (.int .i64))))]) => f15 n y.1 y.2.1 y.2.2) (by kernel_rfl) started (by kernel_rfl) Try.func15 (by kernel_rfl) (by kernel_rfl) (by kernel_rfl) rfl (by kernel_rfl) Try.underlying4
    (fun H ds h => match ds, h with
      | [d0, d1, d2], _ => ⟨rfl, rfl, rfl⟩)
    (by kernel_rfl) (by kernel_rfl)
    (ChangeSpec.witness6 (enc := enc) (C := Try.checked) false ⟨#[], #[.int .i64 0, .int .i64 0, .slice none 0 0], []⟩ 8 (by kernel_rfl) (by kernel_rfl) (by kernel_rfl) (by kernel_rfl))
    (fun n => ok15 n) retryBreaks_plain
/-- The law RetryBreaks holds of the program. -/
theorem retryBreaks_holds : Rows.RetryBreaksSaid :=
  OpenClaim.holds_of_wide 15 Try.f15 rfl rfl rfl rfl rfl rfl rfl ⟨rfl, rfl, rfl, rfl, rfl⟩ rfl rfl rfl rfl rfl (by kernel_rfl) Try.func15 (by kernel_rfl)
    (of_decide_eq_true (by kernel_rfl)) (by unfold Func.isWrapper; first | (rw [if_pos (by decide +kernel)]; kernel_rfl) | (rw [if_neg (by decide +kernel)]; exact ⟨rfl, rfl⟩))
    (fun os started H enc _ => retryBreaks_lifted os started H enc)
end Go.Proofs.Ytnlnfmakcnadlaa
