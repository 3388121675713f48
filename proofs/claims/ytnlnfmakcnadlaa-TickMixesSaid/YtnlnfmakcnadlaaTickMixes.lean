/- The row of the law TickMixes: out of its walk and its plain law. -/
import Derived.Test.YtnlnfmakcnadlaaLMix
import Derived.Test.YtnlnfmakcnadlaaRows
import Derived.JoinedOf
namespace Go.Proofs.Ytnlnfmakcnadlaa
open Go.Rf Go.ChangeShapes Go.WideShapes Go.ChangeAt Go.RowKit
theorem tickMixes_plain (y : dens [(.int .u64), (.int .u64), .str]) (h : WfL [(.int .u64), (.int .u64), .str] y) : ∃ n, f5 n y.1 y.2.1 y.2.2 = some true := by
  obtain ⟨x, z, s⟩ := y
  obtain ⟨hx, hz, hs⟩ := h
  exact ⟨ByteArray.size s + 1 + 4, ticks_mixes hs (Nat.lt_succ_self _) (wf_u64 hx) (wf_u64 hz)⟩
theorem tickMixes_lifted (os : Os) (started : os.Started) (H : Type) (enc : TypeId × Value → H) :
    ReturnsInHanded {} Try.checked os 5 .any (Rows.tickMixesSpec.pre6 enc Try.prog Try.f5 Rows.tickMixesRow.domain false) (Rows.tickMixesSpec.post enc Try.prog Try.f5 false true false false) :=
  law_lifted (C := Try.checked) (ts := [(.int .u64), (.int .u64), .str]) (F := fun n (y : dens [(.int .u64), (.int .u64), .str]) => f5 n y.1 y.2.1 y.2.2) (by kernel_rfl) started (by kernel_rfl) Try.func5 (by kernel_rfl) (by kernel_rfl) (by kernel_rfl) rfl (by kernel_rfl) Try.underlying4
    (fun H ds h => match ds, h with
      | [d0, d1, d2], _ => ⟨rfl, rfl, rfl⟩)
    (by kernel_rfl) (by kernel_rfl)
    (ChangeSpec.witness6 (enc := enc) (C := Try.checked) false ⟨#[], #[.int .u64 0, .int .u64 0, .string ByteArray.empty], []⟩ 8 (by kernel_rfl) (by kernel_rfl) (by kernel_rfl) (by kernel_rfl))
    (fun n => ok5 n) tickMixes_plain
/-- The law TickMixes holds of the program. -/
theorem tickMixes_holds : Rows.TickMixesSaid :=
  OpenClaim.holds_of_wide 5 Try.f5 rfl rfl rfl rfl rfl rfl rfl ⟨rfl, rfl, rfl, rfl, rfl⟩ rfl rfl rfl rfl rfl (by kernel_rfl) Try.func5 (by kernel_rfl)
    (of_decide_eq_true (by kernel_rfl)) (by unfold Func.isWrapper; first | (rw [if_pos (by decide +kernel)]; kernel_rfl) | (rw [if_neg (by decide +kernel)]; exact ⟨rfl, rfl⟩))
    (fun os started H enc _ => tickMixes_lifted os started H enc)
end Go.Proofs.Ytnlnfmakcnadlaa
