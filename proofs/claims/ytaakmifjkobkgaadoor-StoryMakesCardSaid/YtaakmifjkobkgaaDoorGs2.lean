/- strconv.Itoa of any number, behind the listed table of powers of ten. -/
import Derived.Test.YtaakmifjkobkgaaDoorGs
import Derived.Lib.LaidTab
import Derived.Stop.LaidErr
namespace Go.Proofs.YtaakmifjkobkgaaDoor
open Go.Rf Go.RowKit
/-- The table of powers of ten lies as it is laid. -/
def Laid (W0 : World) : Prop := Lib.TabIs Tryd.prog W0 "internal/strconv.uint64pow10" .u64 Lib.pow10Tab
theorem tab_below {W W' : World} (h : Below W.heap.size W W') (hv : Laid W) : Laid W' := by
  unfold Laid Lib.TabIs at hv ⊢
  unfold World.var? at hv ⊢
  have hg : Tryd.prog.globalNamed "internal/strconv.uint64pow10" = some 0 := by kernel_rfl
  simp only [hg, Option.bind_some] at hv ⊢
  have hlt : 0 < W.heap.size := by
    rcases Nat.lt_or_ge 0 W.heap.size with h0 | h0
    · exact h0
    · rw [Array.getElem?_eq_none h0] at hv
      cases hv
  rw [h.block 0 hlt]
  exact hv
noncomputable def itoaF (n : Int) : Option ByteArray := if -9223372036854775808 ≤ n ∧ n ≤ 9223372036854775807 then some ⟨(Lib.itoa n).toArray⟩ else none
noncomputable def e29L (_ : Nat) : Entry := ⟨29, [.int .i64], [.str], fun y => itoaF y⟩
noncomputable def f29L (_ : Nat) (n : Int) : Option ByteArray := itoaF n
theorem ok29L {W0 : World} (hL : Laid W0) (n : Nat) : FnOK Tryd.prog W0 (e29L n) := by
  refine FnOK.of_calls Tryd.func29 (by kernel_rfl) (by kernel_rfl) ?_
  rintro own w i r xs hf hb _ ⟨x, rfl, hx⟩
  have hf : itoaF i = some r := hf
  unfold itoaF at hf
  split at hf
  · rename_i hi
    cases hf
    have hx : [x] = [Value.int .i64 i] := hx
    injection hx with hx
    subst hx
    refine (Tryd.strconv_Itoa i hi.1 hi.2 w (tab_below hb hL)).mono fun e w' ⟨he, k, os, hw⟩ => ⟨[_], he, ?_, _, rfl, rfl⟩
    rw [hw]
    refine ⟨rfl, rfl, rfl, ?_, fun j hj => ?_⟩
    · show w.heap.size ≤ (w.heap ++ os).size
      rw [Array.size_append]
      omega
    · show (w.heap ++ os)[j]? = w.heap[j]?
      exact Array.getElem?_append_left (by omega)
  · cases hf
end Go.Proofs.YtaakmifjkobkgaaDoor
