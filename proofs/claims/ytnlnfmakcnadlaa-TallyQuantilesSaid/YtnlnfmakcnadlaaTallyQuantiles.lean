/- The row of the law TallyQuantiles: out of its walk and its plain law. -/
import Derived.Test.YtnlnfmakcnadlaaLQuant
import Derived.Test.YtnlnfmakcnadlaaRows
import Derived.JoinedOf
namespace Go.Proofs.Ytnlnfmakcnadlaa
open Go.Rf Go.ChangeShapes Go.WideShapes Go.ChangeAt Go.RowKit
theorem tallyQuantiles_plain (y : dens [(.arr 64 (.int .i64)), (.int .i64), (.int .i64)]) (h : WfL [(.arr 64 (.int .i64)), (.int .i64), (.int .i64)] y) : ∃ n, f8 n y.1 y.2.1 y.2.2 = some true := by
  obtain ⟨b, p, o⟩ := y
  obtain ⟨⟨hl, hw⟩, _, ho⟩ := h
  exact ⟨130, quants (Nat.le_refl _) hl (fun x hx => wf_i64 (hw x hx)) (wf_i64 ho)⟩
theorem tallyQuantiles_lifted (os : Os) (started : os.Started) (H : Type) (enc : TypeId × Value → H) :
    ReturnsInHanded {} Try.checked os 8 .any (Rows.tallyQuantilesSpec.pre6 enc Try.prog Try.f8 Rows.tallyQuantilesRow.domain false) (Rows.tallyQuantilesSpec.post enc Try.prog Try.f8 false true false false) :=
  law_lifted (C := Try.checked) (ts := [(.arr 64 (.int .i64)), (.int .i64), (.int .i64)]) (F := fun n (y : dens [(.arr 64 (.int .i64)), (.int .i64), (.int .i64)]) => f8 n y.1 y.2.1 y.2.2) (by kernel_rfl) started (by kernel_rfl) Try.func8 (by kernel_rfl) (by kernel_rfl) (by kernel_rfl) rfl (by kernel_rfl) Try.underlying4
    (fun H ds h => match ds, h with
      | [d0, d1, d2], _ => ⟨rfl, rfl, rfl⟩)
    (by kernel_rfl) (by kernel_rfl)
    (ChangeSpec.witness6 (enc := enc) (C := Try.checked) false ⟨#[], #[.agg (Array.replicate 64 (.int .i64 0)), .int .i64 0, .int .i64 0], []⟩ 8 (by kernel_rfl) (by kernel_rfl) (by kernel_rfl) (by kernel_rfl))
    (fun n => ok8 n) tallyQuantiles_plain
/-- The law TallyQuantiles holds of the program. -/
theorem tallyQuantiles_holds : Rows.TallyQuantilesSaid :=
  OpenClaim.holds_of_wide 8 Try.f8 rfl rfl rfl rfl rfl rfl rfl ⟨rfl, rfl, rfl, rfl, rfl⟩ rfl rfl rfl rfl rfl (by kernel_rfl) Try.func8 (by kernel_rfl)
    (of_decide_eq_true (by kernel_rfl)) (by unfold Func.isWrapper; first | (rw [if_pos (by decide +kernel)]; kernel_rfl) | (rw [if_neg (by decide +kernel)]; exact ⟨rfl, rfl⟩))
    (fun os started H enc _ => tallyQuantiles_lifted os started H enc)
end Go.Proofs.Ytnlnfmakcnadlaa
