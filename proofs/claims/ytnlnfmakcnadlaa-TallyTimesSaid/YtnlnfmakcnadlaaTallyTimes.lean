/- The row of the law TallyTimes: out of its walk and its plain law. -/
import Derived.Test.YtnlnfmakcnadlaaLTimes
import Derived.Test.YtnlnfmakcnadlaaRows
import Derived.JoinedOf
namespace Go.Proofs.Ytnlnfmakcnadlaa
open Go.Rf Go.ChangeShapes Go.WideShapes Go.ChangeAt Go.RowKit
theorem tallyTimes_plain (y : dens [(.sl 132 (.agg (.pair (.int .i64) (.pair (.int .i64) (.pair (.int .i64) (.pair (.int .i64) (.pair (.int .i64) (.pair (.int .i64) (.pair (.int .i64) (.pair (.agg (.pair (.int .u16) .str)) (.agg (.pair (.int .i64) (.agg (.pair (.int .i64) (.pair (.int .i64) (.int .i64))))))))))))))))]) (h : WfL [(.sl 132 (.agg (.pair (.int .i64) (.pair (.int .i64) (.pair (.int .i64) (.pair (.int .i64) (.pair (.int .i64) (.pair (.int .i64) (.pair (.int .i64) (.pair (.agg (.pair (.int .u16) .str)) (.agg (.pair (.int .i64) (.agg (.pair (.int .i64) (.pair (.int .i64) (.int .i64))))))))))))))))] y) : ∃ n, f10 n y = some true := ⟨2100, tally_times (Nat.le_refl _) y⟩
theorem tallyTimes_lifted (os : Os) (started : os.Started) (H : Type) (enc : TypeId × Value → H) :
    ReturnsInHanded {} Try.checked os 10 .any (Rows.tallyTimesSpec.pre6 enc Try.prog Try.f10 Rows.tallyTimesRow.domain false) (Rows.tallyTimesSpec.post enc Try.prog Try.f10 false true false false) :=
  law_lifted (C := Try.checked) (ts := [(.sl 132 (.agg (.pair (.int .i64) (.pair (.int .i64) (.pair (.int .i64) (.pair (.int .i64) (.pair (.int .i64) (.pair (.int .i64) (.pair (.int .i64) (.pair (.agg (.pair (.int .u16) .str)) (.agg (.pair (.int .i64) (.agg (.pair (.int .i64) (.pair (.int .i64) (.int .i64))))))))))))))))]) (F := fun n (y : dens [(.sl 132 (.agg (.pair (.int .i64) (.pair (.int .i64) (.pair (.int .i64) (.pair (.int .i64) (.pair (.int .i64) (.pair (.int .i64) (.pair (.int .i64) (.pair (.agg (.pair (.int .u16) .str)) (.agg (.pair (.int .i64) (.agg (.pair (.int .i64) (.pair (.int .i64) (.int .i64))))))))))))))))]) => f10 n y) (by kernel_rfl) started (by kernel_rfl) Try.func10 (by kernel_rfl) (by kernel_rfl) (by kernel_rfl) rfl (by kernel_rfl) Try.underlying4
    (fun H ds h => match ds, h with
      | [d0], _ => ⟨rfl, rfl, rfl⟩)
    (by kernel_rfl) (by kernel_rfl)
    (ChangeSpec.witness6 (enc := enc) (C := Try.checked) false ⟨#[], #[.slice none 0 0], []⟩ 8 (by kernel_rfl) (by kernel_rfl) (by kernel_rfl) (by kernel_rfl))
    (fun n => ok10 n) tallyTimes_plain
/-- The law TallyTimes holds of the program. -/
theorem tallyTimes_holds : Rows.TallyTimesSaid :=
  OpenClaim.holds_of_wide 10 Try.f10 rfl rfl rfl rfl rfl rfl rfl ⟨rfl, rfl, rfl, rfl, rfl⟩ rfl rfl rfl rfl rfl (by kernel_rfl) Try.func10 (by kernel_rfl)
    (of_decide_eq_true (by kernel_rfl)) (by unfold Func.isWrapper; first | (rw [if_pos (by decide +kernel)]; kernel_rfl) | (rw [if_neg (by decide +kernel)]; exact ⟨rfl, rfl⟩))
    (fun os started H enc _ => tallyTimes_lifted os started H enc)
end Go.Proofs.Ytnlnfmakcnadlaa
