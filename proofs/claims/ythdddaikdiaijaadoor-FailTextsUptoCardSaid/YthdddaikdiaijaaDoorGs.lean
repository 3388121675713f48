/- The listed variables that are read, and strconv.Itoa of any number behind them. -/
import Derived.Test.YthdddaikdiaijaaDoorRfU
import Derived.Test.YthdddaikdiaijaaDoorSh
import Derived.Test.YthdddaikdiaijaaDoorAs1
import Derived.Lib.LaidTab
import Derived.Stop.LaidErr
import Derived.WalkSmall
namespace Go.Proofs.YthdddaikdiaijaaDoor
open Go.Rf Go.RowKit
/-- The table of powers of ten lies as it is laid; errors.errorType is the handle of the type 'error'. -/
structure Laid (W0 : World) : Prop where
  tab : Lib.TabIs Tryd.prog W0 "internal/strconv.uint64pow10" .u64 Lib.pow10Tab
  ety : W0.cell? ⟨0, 0, none⟩ = some (.iface 97 (.agg #[.pointer (some ⟨14, 31, none⟩)]))
theorem var_below {W W' : World} {n : String} {cs : Array Value} (h : Below W.heap.size W W') (hv : W.var? Tryd.prog n = some cs) : W'.var? Tryd.prog n = some cs := by
  cases hg : Tryd.prog.globalNamed n with
  | none =>
    unfold World.var? at hv
    rw [hg] at hv
    cases hv
  | some g =>
    refine var?_below h hg ?_ hv
    unfold World.var? at hv
    rw [hg] at hv
    simp only [Option.bind_some] at hv
    rcases Nat.lt_or_ge g W.heap.size with h0 | h0
    · exact h0
    · rw [Array.getElem?_eq_none h0] at hv
      cases hv
theorem cell_below {W W' : World} {b o : Nat} {v : Value} (h : Below W.heap.size W W') (hv : W.cell? ⟨b, o, none⟩ = some v) : W'.cell? ⟨b, o, none⟩ = some v := by
  have hlt : b < W.heap.size := by
    rcases Nat.lt_or_ge b W.heap.size with h0 | h0
    · exact h0
    · unfold World.cell? at hv
      rw [Array.getElem?_eq_none h0] at hv
      cases hv
  unfold World.cell? at hv ⊢
  rw [h.block b hlt]
  exact hv
theorem Laid.below {W W' : World} (h : Below W.heap.size W W') (hv : Laid W) : Laid W' := ⟨var_below h hv.1, cell_below h hv.2⟩
noncomputable def itoaF (n : Int) : Option ByteArray := if -9223372036854775808 ≤ n ∧ n ≤ 9223372036854775807 then some ⟨(Lib.itoa n).toArray⟩ else none
noncomputable def e36L (_ : Nat) : Entry := ⟨36, [.int .i64], [.str], fun y => itoaF y⟩
noncomputable def f36L (_ : Nat) (n : Int) : Option ByteArray := itoaF n
theorem ok36L {W0 : World} (hL : Laid W0) (n : Nat) : FnOK Tryd.prog W0 (e36L n) := by
  refine FnOK.of_calls Tryd.func36 (by kernel_rfl) (by kernel_rfl) ?_
  rintro own w i r xs hf hb _ ⟨x, rfl, hx⟩
  have hf : itoaF i = some r := hf
  unfold itoaF at hf
  split at hf
  · rename_i hi
    cases hf
    have hx : [x] = [Value.int .i64 i] := hx
    injection hx with hx
    subst hx
    refine (Tryd.strconv_Itoa i hi.1 hi.2 w (hL.below hb).tab).mono fun e w' ⟨he, k, os, hw⟩ => ⟨[_], he, ?_, _, rfl, rfl⟩
    rw [hw]
    refine ⟨rfl, rfl, rfl, ?_, fun j hj => ?_⟩
    · show w.heap.size ≤ (w.heap ++ os).size
      rw [Array.size_append]
      omega
    · show (w.heap ++ os)[j]? = w.heap[j]?
      exact Array.getElem?_append_left (by omega)
  · cases hf
end Go.Proofs.YthdddaikdiaijaaDoor
