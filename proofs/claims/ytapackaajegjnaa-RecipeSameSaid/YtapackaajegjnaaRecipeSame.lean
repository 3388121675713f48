/- The row of the law RecipeSame: out of its walk and its plain law. -/
import Derived.Test.YtapackaajegjnaaLSame
import Derived.Test.YtapackaajegjnaaRows
import Derived.JoinedOf
namespace Go.Proofs.Ytapackaajegjnaa
open Go.Rf Go.ChangeShapes Go.WideShapes Go.ChangeAt Go.RowKit
theorem recipeSame_plain (y : dens [(.sl 30 (.agg (.pair (.int .i64) (.pair (.int .i64) (.int .i64))))), (.agg (.pair (.agg (.pair (.int .u16) .str)) (.pair (.int .i64) .bool))), (.agg (.pair (.agg (.pair (.int .u16) .str)) (.pair (.int .i64) .bool)))]) (h : WfL Try.prog [(.sl 30 (.agg (.pair (.int .i64) (.pair (.int .i64) (.int .i64))))), (.agg (.pair (.agg (.pair (.int .u16) .str)) (.pair (.int .i64) .bool))), (.agg (.pair (.agg (.pair (.int .u16) .str)) (.pair (.int .i64) .bool)))] y) : ∃ n, f3 n y.1 y.2.1 y.2.2 = some true := by
  obtain ⟨l, x, y⟩ := y
  obtain ⟨⟨hl, _, _⟩, ⟨⟨_, hk⟩, _⟩, _⟩ := h
  have hn1 : x.1.2.size + 300 ≤ l.length + x.1.2.size + 301 := by omega
  have hn2 : l.length < l.length + x.1.2.size + 301 := by omega
  exact ⟨l.length + x.1.2.size + 301, recipe_same y hl hk hn1 hn2⟩
theorem recipeSame_lifted (os : Os) (started : os.Started) (H : Type) (enc : TypeId × Value → H) :
    ReturnsInHanded {} Try.checked os 3 .any (Rows.recipeSameSpec.pre6 enc Try.prog Try.f3 Rows.recipeSameRow.domain false) (Rows.recipeSameSpec.post enc Try.prog Try.f3 false true false false) :=
  law_lifted (C := Try.checked) (ts := [(.sl 30 (.agg (.pair (.int .i64) (.pair (.int .i64) (.int .i64))))), (.agg (.pair (.agg (.pair (.int .u16) .str)) (.pair (.int .i64) .bool))), (.agg (.pair (.agg (.pair (.int .u16) .str)) (.pair (.int .i64) .bool)))]) (F := fun n (y : dens [(.sl 30 (.agg (.pair (.int .i64) (.pair (.int .i64) (.int .i64))))), (.agg (.pair (.agg (.pair (.int .u16) .str)) (.pair (.int .i64) .bool))), (.agg (.pair (.agg (.pair (.int .u16) .str)) (.pair (.int .i64) .bool)))]) => f3 n y.1 y.2.1 y.2.2) (by kernel_rfl) started (by kernel_rfl) Try.func3 (by kernel_rfl) (by kernel_rfl) (by kernel_rfl) rfl (by kernel_rfl) Try.underlying4
    (fun H ds h => match ds, h with
      | [d0, d1, d2], _ => ⟨rfl, rfl, rfl⟩)
    (by kernel_rfl) (by kernel_rfl)
    (ChangeSpec.witness6 (enc := enc) (C := Try.checked) false ⟨#[], #[.slice none 0 0, .agg #[.int .u16 0, .string ByteArray.empty, .int .i64 0, .bool false], .agg #[.int .u16 0, .string ByteArray.empty, .int .i64 0, .bool false]], []⟩ 8 (by kernel_rfl) (by kernel_rfl) (by kernel_rfl) (by kernel_rfl))
    (fun n => ok3 n) recipeSame_plain
/-- The law RecipeSame holds of the program. -/
theorem recipeSame_holds : Rows.RecipeSameSaid :=
  OpenClaim.holds_of_wide 3 Try.f3 rfl rfl rfl rfl rfl rfl rfl ⟨rfl, rfl, rfl, rfl, rfl⟩ rfl rfl rfl rfl rfl (by kernel_rfl) Try.func3 (by kernel_rfl)
    (of_decide_eq_true (by kernel_rfl)) (by unfold Func.isWrapper; first | (rw [if_pos (by decide +kernel)]; kernel_rfl) | (rw [if_neg (by decide +kernel)]; exact ⟨rfl, rfl⟩))
    (fun os started H enc _ => recipeSame_lifted os started H enc)
end Go.Proofs.Ytapackaajegjnaa
