/- The row of the law TickSums: out of its walk and its plain law. -/
import Derived.Test.YtnlnfmakcnadlaaLMore
import Derived.Test.YtnlnfmakcnadlaaRows
import Derived.JoinedOf
namespace Go.Proofs.Ytnlnfmakcnadlaa
open Go.Rf Go.ChangeShapes Go.WideShapes Go.ChangeAt Go.RowKit
theorem tickSums_plain (y : dens [(.int .i64), (.int .i64), (.sl 2 (.int .i64))]) (h : WfL [(.int .i64), (.int .i64), (.sl 2 (.int .i64))] y) : ∃ n, f6 n y.1 y.2.1 y.2.2 = some true := by
  obtain ⟨a, b, l⟩ := y
  obtain ⟨_, _, hl, hw⟩ := h
  exact ⟨2 * List.length l + 2 + 4, ticks_sums hl (fun x hx => wf_i64 (hw x hx)) (Nat.le_refl _) a b⟩
theorem tickSums_lifted (os : Os) (started : os.Started) (H : Type) (enc : TypeId × Value → H) :
    ReturnsInHanded {} Try.checked os 6 .any (Rows.tickSumsSpec.pre6 enc Try.prog Try.f6 Rows.tickSumsRow.domain false) (Rows.tickSumsSpec.post enc Try.prog Try.f6 false true false false) :=
  law_lifted (C := Try.checked) (ts := [(.int .i64), (.int .i64), (.sl 2 (.int .i64))]) (F := fun n (y : dens [(.int .i64), (.int .i64), (.sl 2 (.int .i64))]) => f6 n y.1 y.2.1 y.2.2) (by kernel_rfl) started (by kernel_rfl) Try.func6 (by kernel_rfl) (by kernel_rfl) (by kernel_rfl) rfl (by kernel_rfl) Try.underlying4
    (fun H ds h => match ds, h with
      | [d0, d1, d2], _ => ⟨rfl, rfl, rfl⟩)
    (by kernel_rfl) (by kernel_rfl)
    (ChangeSpec.witness6 (enc := enc) (C := Try.checked) false ⟨#[], #[.int .i64 0, .int .i64 0, .slice none 0 0], []⟩ 8 (by kernel_rfl) (by kernel_rfl) (by kernel_rfl) (by kernel_rfl))
    (fun n => ok6 n) tickSums_plain
/-- The law TickSums holds of the program. -/
theorem tickSums_holds : Rows.TickSumsSaid :=
  OpenClaim.holds_of_wide 6 Try.f6 rfl rfl rfl rfl rfl rfl rfl ⟨rfl, rfl, rfl, rfl, rfl⟩ rfl rfl rfl rfl rfl (by kernel_rfl) Try.func6 (by kernel_rfl)
    (of_decide_eq_true (by kernel_rfl)) (by unfold Func.isWrapper; first | (rw [if_pos (by decide +kernel)]; kernel_rfl) | (rw [if_neg (by decide +kernel)]; exact ⟨rfl, rfl⟩))
    (fun os started H enc _ => tickSums_lifted os started H enc)
end Go.Proofs.Ytnlnfmakcnadlaa
