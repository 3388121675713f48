/- The row of the law TickParts: out of its walk and its plain law. -/
import Derived.Test.YtnlnfmakcnadlaaLFold
import Derived.Test.YtnlnfmakcnadlaaRows
import Derived.JoinedOf
namespace Go.Proofs.Ytnlnfmakcnadlaa
open Go.Rf Go.ChangeShapes Go.WideShapes Go.ChangeAt Go.RowKit
theorem tickParts_plain (y : dens [(.int .u64), (.int .i64), (.int .i64)]) (h : WfL [(.int .u64), (.int .i64), (.int .i64)] y) : ∃ n, f12 n y.1 y.2.1 y.2.2 = some true := by
  obtain ⟨x, p, b⟩ := y
  obtain ⟨hx, hp, _⟩ := h
  exact ⟨66 + 4, ticks_parts (Nat.le_refl _) (wf_u64 hx) (wf_i64 hp)⟩
theorem tickParts_lifted (os : Os) (started : os.Started) (H : Type) (enc : TypeId × Value → H) :
    ReturnsInHanded {} Try.checked os 12 .any (Rows.tickPartsSpec.pre6 enc Try.prog Try.f12 Rows.tickPartsRow.domain false) (Rows.tickPartsSpec.post enc Try.prog Try.f12 false true false false) :=
  law_lifted (C := Try.checked) (ts := [(.int .u64), (.int .i64), (.int .i64)]) (F := fun n (y : dens [(.int .u64), (.int .i64), (.int .i64)]) => f12 n y.1 y.2.1 y.2.2) (by kernel_rfl) started (by kernel_rfl) Try.func12 (by kernel_rfl) (by kernel_rfl) (by kernel_rfl) rfl (by kernel_rfl) Try.underlying4
    (fun H ds h => match ds, h with
      | [d0, d1, d2], _ => ⟨rfl, rfl, rfl⟩)
    (by kernel_rfl) (by kernel_rfl)
    (ChangeSpec.witness6 (enc := enc) (C := Try.checked) false ⟨#[], #[.int .u64 0, .int .i64 0, .int .i64 0], []⟩ 8 (by kernel_rfl) (by kernel_rfl) (by kernel_rfl) (by kernel_rfl))
    (fun n => ok12 n) tickParts_plain
/-- The law TickParts holds of the program. -/
theorem tickParts_holds : Rows.TickPartsSaid :=
  OpenClaim.holds_of_wide 12 Try.f12 rfl rfl rfl rfl rfl rfl rfl ⟨rfl, rfl, rfl, rfl, rfl⟩ rfl rfl rfl rfl rfl (by kernel_rfl) Try.func12 (by kernel_rfl)
    (of_decide_eq_true (by kernel_rfl)) (by unfold Func.isWrapper; first | (rw [if_pos (by decide +kernel)]; kernel_rfl) | (rw [if_neg (by decide +kernel)]; exact ⟨rfl, rfl⟩))
    (fun os started H enc _ => tickParts_lifted os started H enc)
end Go.Proofs.Ytnlnfmakcnadlaa
