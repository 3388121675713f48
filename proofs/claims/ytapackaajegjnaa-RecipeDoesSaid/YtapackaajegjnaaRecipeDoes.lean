/- The row of the law RecipeDoes: out of its walk and its plain law. -/
import Derived.Test.YtapackaajegjnaaLDoes2
import Derived.Test.YtapackaajegjnaaRows
import Derived.JoinedOf
namespace Go.Proofs.Ytapackaajegjnaa
open Go.Rf Go.ChangeShapes Go.WideShapes Go.ChangeAt Go.RowKit
theorem recipeDoes_plain (y : dens [(.sl 30 (.agg (.pair (.int .i64) (.pair (.int .i64) (.int .i64))))), (.agg (.pair (.int .i64) (.pair (.int .i64) (.pair (.int .i64) (.int .i64))))), (.agg (.pair (.agg (.pair (.int .u16) .str)) (.pair (.int .i64) .bool)))]) (h : WfL Try.prog [(.sl 30 (.agg (.pair (.int .i64) (.pair (.int .i64) (.int .i64))))), (.agg (.pair (.int .i64) (.pair (.int .i64) (.pair (.int .i64) (.int .i64))))), (.agg (.pair (.agg (.pair (.int .u16) .str)) (.pair (.int .i64) .bool)))] y) : ∃ n, f4 n y.1 y.2.1 y.2.2 = some true := by
  obtain ⟨l, c, x⟩ := y
  obtain ⟨⟨_, _, hb⟩, ⟨_, hc, _, _⟩, ⟨⟨h16, hk⟩, _⟩⟩ := h
  have e : Try.prog.bytesOf 30 = 24 := by kernel_rfl
  have hr : reachBytes = 140737488351232 := by decide
  rw [e, hr] at hb
  exact ⟨l.length + x.1.2.size + 310, recipe_does hb (wf_i64 hc) hk (by simp only [Wf, Lit.wf, Bool.and_eq_true, decide_eq_true_eq] at h16; exact h16) (Nat.le_refl _)⟩
theorem recipeDoes_lifted (os : Os) (started : os.Started) (H : Type) (enc : TypeId × Value → H) :
    ReturnsInHanded {} Try.checked os 4 .any (Rows.recipeDoesSpec.pre6 enc Try.prog Try.f4 Rows.recipeDoesRow.domain false) (Rows.recipeDoesSpec.post enc Try.prog Try.f4 false true false false) :=
  law_lifted (C := Try.checked) (ts := [(.sl 30 (.agg (.pair (.int .i64) (.pair (.int .i64) (.int .i64))))), (.agg (.pair (.int .i64) (.pair (.int .i64) (.pair (.int .i64) (.int .i64))))), (.agg (.pair (.agg (.pair (.int .u16) .str)) (.pair (.int .i64) .bool)))]) (F := fun n (y : dens [(.sl 30 (.agg (.pair (.int .i64) (.pair (.int .i64) (.int .i64))))), (.agg (.pair (.int .i64) (.pair (.int .i64) (.pair (.int .i64) (.int .i64))))), (.agg (.pair (.agg (.pair (.int .u16) .str)) (.pair (.int .i64) .bool)))]) => f4 n y.1 y.2.1 y.2.2) (by kernel_rfl) started (by kernel_rfl) Try.func4 (by kernel_rfl) (by kernel_rfl) (by kernel_rfl) rfl (by kernel_rfl) Try.underlying4
    (fun H ds h => match ds, h with
      | [d0, d1, d2], _ => ⟨rfl, rfl, rfl⟩)
    (by kernel_rfl) (by kernel_rfl)
    (ChangeSpec.witness6 (enc := enc) (C := Try.checked) false ⟨#[], #[.slice none 0 0, .agg #[.int .i64 0, .int .i64 0, .int .i64 0, .int .i64 0], .agg #[.int .u16 0, .string ByteArray.empty, .int .i64 0, .bool false]], []⟩ 8 (by kernel_rfl) (by kernel_rfl) (by kernel_rfl) (by kernel_rfl))
    (fun n => ok4 n) recipeDoes_plain
/-- The law RecipeDoes holds of the program. -/
theorem recipeDoes_holds : Rows.RecipeDoesSaid :=
  OpenClaim.holds_of_wide 4 Try.f4 rfl rfl rfl rfl rfl rfl rfl ⟨rfl, rfl, rfl, rfl, rfl⟩ rfl rfl rfl rfl rfl (by kernel_rfl) Try.func4 (by kernel_rfl)
    (of_decide_eq_true (by kernel_rfl)) (by unfold Func.isWrapper; first | (rw [if_pos (by decide +kernel)]; kernel_rfl) | (rw [if_neg (by decide +kernel)]; exact ⟨rfl, rfl⟩))
    (fun os started H enc _ => recipeDoes_lifted os started H enc)
end Go.Proofs.Ytapackaajegjnaa
