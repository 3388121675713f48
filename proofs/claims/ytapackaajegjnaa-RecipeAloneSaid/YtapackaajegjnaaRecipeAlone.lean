/- The row of the law RecipeAlone: out of its walk and its plain law. -/
import Derived.Test.YtapackaajegjnaaLAlone
import Derived.Test.YtapackaajegjnaaRows
import Derived.JoinedOf
namespace Go.Proofs.Ytapackaajegjnaa
open Go.Rf Go.ChangeShapes Go.WideShapes Go.ChangeAt Go.RowKit
theorem recipeAlone_plain (y : dens [(.sl 30 (.agg (.pair (.int .i64) (.pair (.int .i64) (.int .i64))))), (.agg (.pair (.agg (.pair (.int .u16) .str)) (.pair (.int .i64) .bool)))]) (h : WfL Try.prog [(.sl 30 (.agg (.pair (.int .i64) (.pair (.int .i64) (.int .i64))))), (.agg (.pair (.agg (.pair (.int .u16) .str)) (.pair (.int .i64) .bool)))] y) : ∃ n, f5 n y.1 y.2 = some true := by
  obtain ⟨l, x⟩ := y
  obtain ⟨⟨_, hs, hb⟩, ⟨h16, hk⟩, _⟩ := h
  have e : Try.prog.bytesOf 30 = 24 := by kernel_rfl
  have hr : reachBytes = 140737488351232 := by decide
  rw [e, hr] at hb
  exact ⟨2 * l.length + x.1.2.size + 700, recipe_alone hb (fun s h => (wf_i64 (hs s h).2.1).2) hk (by simp only [Wf, Lit.wf, Bool.and_eq_true, decide_eq_true_eq] at h16; exact h16) (Nat.le_refl _)⟩
theorem recipeAlone_lifted (os : Os) (started : os.Started) (H : Type) (enc : TypeId × Value → H) :
    ReturnsInHanded {} Try.checked os 5 .any (Rows.recipeAloneSpec.pre6 enc Try.prog Try.f5 Rows.recipeAloneRow.domain false) (Rows.recipeAloneSpec.post enc Try.prog Try.f5 false true false false) :=
  law_lifted (C := Try.checked) (ts := [(.sl 30 (.agg (.pair (.int .i64) (.pair (.int .i64) (.int .i64))))), (.agg (.pair (.agg (.pair (.int .u16) .str)) (.pair (.int .i64) .bool)))]) (F := fun n (y : dens [(.sl 30 (.agg (.pair (.int .i64) (.pair (.int .i64) (.int .i64))))), (.agg (.pair (.agg (.pair (.int .u16) .str)) (.pair (.int .i64) .bool)))]) => f5 n y.1 y.2) (by kernel_rfl) started (by kernel_rfl) Try.func5 (by kernel_rfl) (by kernel_rfl) (by kernel_rfl) rfl (by kernel_rfl) Try.underlying4
    (fun H ds h => match ds, h with
      | [d0, d1], _ => ⟨rfl, rfl, rfl⟩)
    (by kernel_rfl) (by kernel_rfl)
    (ChangeSpec.witness6 (enc := enc) (C := Try.checked) false ⟨#[], #[.slice none 0 0, .agg #[.int .u16 0, .string ByteArray.empty, .int .i64 0, .bool false]], []⟩ 8 (by kernel_rfl) (by kernel_rfl) (by kernel_rfl) (by kernel_rfl))
    (fun _ n => ok5 n) recipeAlone_plain
/-- The law RecipeAlone holds of the program. -/
theorem recipeAlone_holds : Rows.RecipeAloneSaid :=
  OpenClaim.holds_of_wide 5 Try.f5 rfl rfl rfl rfl rfl rfl rfl ⟨rfl, rfl, rfl, rfl, rfl⟩ rfl rfl rfl rfl rfl (by kernel_rfl) Try.func5 (by kernel_rfl)
    (of_decide_eq_true (by kernel_rfl)) (by unfold Func.isWrapper; first | (rw [if_pos (by decide +kernel)]; kernel_rfl) | (rw [if_neg (by decide +kernel)]; exact ⟨rfl, rfl⟩))
    (fun os started H enc _ => recipeAlone_lifted os started H enc)
end Go.Proofs.Ytapackaajegjnaa
