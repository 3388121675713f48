/- The rows' listed variables: what they give a walk, and a world in which they lie as listed (errors.errorType by its handle). -/
import Derived.Test.YthdddaikdiaijaaDoorGs
import Derived.Test.YthdddaikdiaijaaDoorRows
import Derived.Lay
import Derived.LaidHandle
import Derived.LaidLaws
import Derived.MakeChecks
namespace Go.Proofs.YthdddaikdiaijaaDoor
open Go.Rf Go.ChangeShapes Go.WideShapes Go.ChangeAt Go.RowKit
abbrev errName : List UInt8 := [101, 114, 114, 111, 114]
theorem rt_type : (Tryd.prog.cutTypes.find? (·.1 == "internal/reflectlite.rtype")).map (·.2) = some 97 := by kernel_rfl
theorem one_row : ((List.range 193).filter fun t => Tryd.prog.rowNamed t errName) = [31] := by kernel_rfl
theorem types_size : Tryd.prog.types.size = 193 := by kernel_rfl
theorem ety_global : Tryd.prog.globalNamed "errors.errorType" = some 0 := by kernel_rfl
theorem ety_of {W : World} (h : handlesMet Tryd.prog [("errors.errorType", Rows.laid_errors_errorType)] W) : W.cell? ⟨0, 0, none⟩ = some (.iface 97 (.agg #[.pointer (some ⟨14, 31, none⟩)])) := by
  obtain ⟨name, u, ty, e1, e2, e3, e4, e5⟩ := h _ (List.mem_singleton.2 rfl)
  have en : name = errName := (Option.some.inj e1).symm
  subst en
  obtain rfl := Option.some.inj (rt_type.symm.trans e2)
  have hm : ty ∈ (List.range 193).filter fun t => Tryd.prog.rowNamed t errName := List.mem_filter.2 ⟨List.mem_range.2 (by rw [← types_size]; exact e3), e4⟩
  rw [one_row] at hm
  obtain rfl := List.mem_singleton.1 hm
  have hh : typeHandle Tryd.prog 31 = .pointer (some ⟨14, 31, none⟩) := by kernel_rfl
  rw [hh] at e5
  simpa using World.var?_cell ety_global e5 0
abbrev laid4 : List (String × DataW Unit) := [("math/bits.deBruijn32tab", Rows.laid_math_bits_deBruijn32tab), ("math/bits.deBruijn64tab", Rows.laid_math_bits_deBruijn64tab), ("internal/strconv.uint64pow10", Rows.laid_internal_strconv_uint64pow10), ("errors.errorType", Rows.laid_errors_errorType)]
abbrev laid3 : List (String × DataW Unit) := [("math/bits.deBruijn32tab", Rows.laid_math_bits_deBruijn32tab), ("math/bits.deBruijn64tab", Rows.laid_math_bits_deBruijn64tab), ("internal/strconv.uint64pow10", Rows.laid_internal_strconv_uint64pow10)]
theorem tab_of {W0 : World} {rest : List (String × DataW Unit)} (h3 : laidMet Tryd.prog (("internal/strconv.uint64pow10", Rows.laid_internal_strconv_uint64pow10) :: rest) W0) : Lib.TabIs Tryd.prog W0 "internal/strconv.uint64pow10" .u64 Lib.pow10Tab := by
  rw [show (Rows.laid_internal_strconv_uint64pow10 : DataW Unit) = Lib.tabData .u64 Lib.pow10Tab by rfl] at h3
  exact Lib.tabIs_of_head (g := 4) (t := 144) (e := 123) (n := 20) (by kernel_rfl) (by kernel_rfl) (by kernel_rfl) (by kernel_rfl) (by kernel_rfl) (by kernel_rfl) h3
/-- The listed variables lie as they are laid. -/
theorem laid_of {W0 : World} (h : laidMetH Tryd.prog laid4 W0) : Laid W0 := by
  have h' : laidMet Tryd.prog laid3 W0 ∧ handlesMet Tryd.prog [("errors.errorType", Rows.laid_errors_errorType)] W0 := h
  exact ⟨tab_of (laidMet.tail (laidMet.tail h'.1)), ety_of h'.2⟩
/-- A world in which errors.errorType is its handle. -/
noncomputable def baseW (os : Os) : World :=
  let w0 := World.holding Tryd.prog os ⟨#[], #[], []⟩
  { w0 with heap := w0.heap.modify 0 fun
      | .cells _ t frozen => .cells #[.iface 97 (.agg #[.pointer (some ⟨14, 31, none⟩)])] t frozen
      | o => o }
theorem baseW_os (os : Os) : (baseW os).os = os := rfl
theorem laidMet_layW {w0 : World} {laid : List (String × DataW Unit)} (args : Array Value) (hf : w0.layFits Tryd.prog laid [] = true) (hi : w0.layIfaces Tryd.prog laid (w0.layVars Tryd.prog laid) = true) :
    laidMet Tryd.prog laid ((w0.layVars Tryd.prog laid).forCall (fun _ _ => 0) ⟨#[], args, []⟩).memory := by
  have e1 : (laid.filter fun x => (laid.map (·.1)).contains x.1) = laid := List.filter_eq_self.2 fun x hx => List.contains_iff_mem.2 (List.mem_map.2 ⟨x, hx, rfl⟩)
  have e2 : (laid.filter fun x => !(laid.map (·.1)).contains x.1) = [] := List.filter_eq_nil_iff.2 fun x hx => by rw [List.contains_iff_mem.2 (List.mem_map.2 ⟨x, hx, rfl⟩)]; simp
  have h : laidMet Tryd.prog laid (w0.layVars Tryd.prog laid) := laidMet_layVars (w0 := w0) (laid.map (·.1)) [] (by rw [e1]) (by rw [e1]; exact hf) (by rw [e1]; exact hi) (by rw [e2]; exact LaidIn.none)
  exact h.of_heap (by simp [World.memory, World.forCall, Input.heap])
noncomputable def witW (os : Os) : World := (baseW os).layVars Tryd.prog laid3
theorem witW_os (os : Os) : (witW os).os = os := (World.layVars_os _ _ _).trans (baseW_os os)
theorem witW_met (os : Os) (args : Array Value) : laidMetH Tryd.prog laid4 ((witW os).forCall (fun _ _ => 0) ⟨#[], args, []⟩).memory :=
  laidMetH_of_parts (laidMet_layW args (by kernel_rfl) (by kernel_rfl)) (by kernel_rfl)
end Go.Proofs.YthdddaikdiaijaaDoor
