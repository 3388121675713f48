/- The row of the law TickRounds: out of its walk and its plain law. -/
import Derived.Test.YtnlnfmakcnadlaaLRound
import Derived.Test.YtnlnfmakcnadlaaRows
import Derived.JoinedOf
namespace Go.Proofs.Ytnlnfmakcnadlaa
open Go.Rf Go.ChangeShapes Go.WideShapes Go.ChangeAt Go.RowKit
theorem tickRounds_plain (y : dens [(.int .i64), (.int .i64), (.int .i64)]) (h : WfL [(.int .i64), (.int .i64), (.int .i64)] y) : ∃ n, f11 n y.1 y.2.1 y.2.2 = some true := by
  obtain ⟨t, b, m⟩ := y
  obtain ⟨ht, _, hm⟩ := h
  exact ⟨66 + 4, ticks_rounds (Nat.le_refl _) (wf_i64 ht) (wf_i64 hm)⟩
theorem tickRounds_lifted (os : Os) (started : os.Started) (H : Type) (enc : TypeId × Value → H) :
    ReturnsInHanded {} Try.checked os 11 .any (Rows.tickRoundsSpec.pre6 enc Try.prog Try.f11 Rows.tickRoundsRow.domain false) (Rows.tickRoundsSpec.post enc Try.prog Try.f11 false true false false) :=
  law_lifted (C := Try.checked) (ts := [(.int .i64), (.int .i64), (.int .i64)]) (F := fun n (y : dens [(.int .i64), (.int .i64), (.int .i64)]) => f11 n y.1 y.2.1 y.2.2) (by kernel_rfl) started (by kernel_rfl) Try.func11 (by kernel_rfl) (by kernel_rfl) (by kernel_rfl) rfl (by kernel_rfl) Try.underlying4
    (fun H ds h => match ds, h with
      | [d0, d1, d2], _ => ⟨rfl, rfl, rfl⟩)
    (by kernel_rfl) (by kernel_rfl)
    (ChangeSpec.witness6 (enc := enc) (C := Try.checked) false ⟨#[], #[.int .i64 0, .int .i64 0, .int .i64 0], []⟩ 8 (by kernel_rfl) (by kernel_rfl) (by kernel_rfl) (by kernel_rfl))
    (fun n => ok11 n) tickRounds_plain
/-- The law TickRounds holds of the program. -/
theorem tickRounds_holds : Rows.TickRoundsSaid :=
  OpenClaim.holds_of_wide 11 Try.f11 rfl rfl rfl rfl rfl rfl rfl ⟨rfl, rfl, rfl, rfl, rfl⟩ rfl rfl rfl rfl rfl (by kernel_rfl) Try.func11 (by kernel_rfl)
    (of_decide_eq_true (by kernel_rfl)) (by unfold Func.isWrapper; first | (rw [if_pos (by decide +kernel)]; kernel_rfl) | (rw [if_neg (by decide +kernel)]; exact ⟨rfl, rfl⟩))
    (fun os started H enc _ => tickRounds_lifted os started H enc)
end Go.Proofs.Ytnlnfmakcnadlaa
