/- The row of the law TickBuckets: out of its walk and its plain law. -/
import Derived.Test.YtnlnfmakcnadlaaLBucket
import Derived.Test.YtnlnfmakcnadlaaRows
import Derived.JoinedOf
namespace Go.Proofs.Ytnlnfmakcnadlaa
open Go.Rf Go.ChangeShapes Go.WideShapes Go.ChangeAt Go.RowKit
theorem tickBuckets_plain (y : dens [(.int .i64), (.int .i64)]) (h : WfL [(.int .i64), (.int .i64)] y) : ∃ n, f9 n y.1 y.2 = some true := by
  obtain ⟨d, b⟩ := y
  exact ⟨66 + 4, ticks_buckets (Nat.le_refl _) (wf_i64 h.1)⟩
theorem tickBuckets_lifted (os : Os) (started : os.Started) (H : Type) (enc : TypeId × Value → H) :
    ReturnsInHanded {} Try.checked os 9 .any (Rows.tickBucketsSpec.pre6 enc Try.prog Try.f9 Rows.tickBucketsRow.domain false) (Rows.tickBucketsSpec.post enc Try.prog Try.f9 false true false false) :=
  law_lifted (C := Try.checked) (ts := [(.int .i64), (.int .i64)]) (F := fun n (y : dens [(.int .i64), (.int .i64)]) => f9 n y.1 y.2) (by kernel_rfl) started (by kernel_rfl) Try.func9 (by kernel_rfl) (by kernel_rfl) (by kernel_rfl) rfl (by kernel_rfl) Try.underlying4
    (fun H ds h => match ds, h with
      | [d0, d1], _ => ⟨rfl, rfl, rfl⟩)
    (by kernel_rfl) (by kernel_rfl)
    (ChangeSpec.witness6 (enc := enc) (C := Try.checked) false ⟨#[], #[.int .i64 0, .int .i64 0], []⟩ 8 (by kernel_rfl) (by kernel_rfl) (by kernel_rfl) (by kernel_rfl))
    (fun n => ok9 n) tickBuckets_plain
/-- The law TickBuckets holds of the program. -/
theorem tickBuckets_holds : Rows.TickBucketsSaid :=
  OpenClaim.holds_of_wide 9 Try.f9 rfl rfl rfl rfl rfl rfl rfl ⟨rfl, rfl, rfl, rfl, rfl⟩ rfl rfl rfl rfl rfl (by kernel_rfl) Try.func9 (by kernel_rfl)
    (of_decide_eq_true (by kernel_rfl)) (by unfold Func.isWrapper; first | (rw [if_pos (by decide +kernel)]; kernel_rfl) | (rw [if_neg (by decide +kernel)]; exact ⟨rfl, rfl⟩))
    (fun os started H enc _ => tickBuckets_lifted os started H enc)
end Go.Proofs.Ytnlnfmakcnadlaa
