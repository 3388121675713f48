/- The law LoadEnds, where what it reads is of bulk at most 1048576: its row, out of its walk and its plain law. -/
import Derived.Test.YtbmdklndjlmogaaLEnds
import Derived.Test.YtbmdklndjlmogaaRows
import Derived.JoinedCond
namespace Go.Proofs.Ytbmdklndjlmogaa
open Go.Rf Go.ChangeShapes Go.WideShapes Go.ChangeAt Go.RowKit
theorem loadEnds_plain (y : dens [(.sl 33 (.agg (.pair (.int .i64) (.pair (.agg (.pair (.int .u16) .str)) (.pair (.int .i64) (.sl 35 (.agg (.pair (.int .i64) (.pair (.int .i64) (.int .i64))))))))))]) (h : WfL Try.prog [(.sl 33 (.agg (.pair (.int .i64) (.pair (.agg (.pair (.int .u16) .str)) (.pair (.int .i64) (.sl 35 (.agg (.pair (.int .i64) (.pair (.int .i64) (.int .i64))))))))))] y) : ∃ n, f3 n y = some true := ⟨1000000, load_ends y⟩
theorem loadEnds_lifted (os : Os) (started : os.Started) (H : Type) (enc : TypeId × Value → H) (I : Stop.Interp) :
    ReturnsInHanded {} Try.checked os 3 .any ((Rows.OpenSpec.upto Rows.loadEndsSpec).pre6 enc Try.prog Try.f3 Rows.loadEndsUptoRow.domain false) (((Rows.OpenSpec.upto Rows.loadEndsSpec).at I).post enc Try.prog Try.f3 false true false false) :=
  law_lifted_upto (C := Try.checked) (s := Rows.loadEndsSpec) (k := Rows.uptoSmall) (ts := [(.sl 33 (.agg (.pair (.int .i64) (.pair (.agg (.pair (.int .u16) .str)) (.pair (.int .i64) (.sl 35 (.agg (.pair (.int .i64) (.pair (.int .i64) (.int .i64))))))))))]) (F := fun n (y : dens [(.sl 33 (.agg (.pair (.int .i64) (.pair (.agg (.pair (.int .u16) .str)) (.pair (.int .i64) (.sl 35 (.agg (.pair (.int .i64) (.pair (.int .i64) (.int .i64))))))))))]) => f3 n y) (by kernel_rfl) started (by kernel_rfl) Try.func3 (by kernel_rfl) (by kernel_rfl) (by kernel_rfl) rfl (by kernel_rfl) Try.underlying4
    (fun H ds h => match ds, h with
      | [d0], _ => ⟨rfl, rfl, rfl⟩)
    (by kernel_rfl) (by kernel_rfl)
    (OpenSpec.witness (enc := enc) (C := Try.checked) (s := Rows.OpenSpec.upto Rows.loadEndsSpec) (k := Rows.uptoSmall) rfl false ⟨#[], #[.slice none 0 0], []⟩ 8 (by kernel_rfl) (by kernel_rfl) (by kernel_rfl)
      (x := ([.nil], [], [])) (by kernel_rfl) rfl (by kernel_rfl))
    (fun n => ok3 n) loadEnds_plain
/-- The law LoadEnds holds of the program where what it reads is small. -/
theorem loadEndsUpto_holds : Rows.LoadEndsUptoSaid :=
  OpenClaim.holds_of_cond 3 Try.f3 rfl rfl rfl rfl rfl rfl rfl ⟨rfl, rfl, rfl, rfl, rfl⟩ rfl rfl rfl rfl rfl (by kernel_rfl) Try.func3 (by kernel_rfl)
    (of_decide_eq_true (by kernel_rfl)) (by unfold Func.isWrapper; first | (rw [if_pos (by decide +kernel)]; kernel_rfl) | (rw [if_neg (by decide +kernel)]; exact ⟨rfl, rfl⟩))
    (fun os started H enc _ F => loadEnds_lifted os started H enc F)
end Go.Proofs.Ytbmdklndjlmogaa
