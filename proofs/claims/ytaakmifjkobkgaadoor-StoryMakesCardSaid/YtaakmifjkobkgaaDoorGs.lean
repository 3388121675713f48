/- Go's library by its contracts: strconv.Itoa of small numbers. -/
import Derived.Test.YtaakmifjkobkgaaDoorRfU
import Derived.Test.YtaakmifjkobkgaaDoorSh
namespace Go.Proofs.YtaakmifjkobkgaaDoor
open Go.Rf Go.RowKit
/-- strconv.Itoa of small numbers. -/
noncomputable def smallF (n : Int) : Option ByteArray := if 0 ≤ n ∧ n < 100 then some ⟨(Lib.decDigits n.toNat).toArray⟩ else none
noncomputable def e29 (_ : Nat) : Entry := ⟨29, [.int .i64], [.str], fun y => smallF y⟩
noncomputable def f29 (_ : Nat) (n : Int) : Option ByteArray := smallF n
theorem ok29 {W0 : World} (n : Nat) : FnOK Tryd.prog W0 (e29 n) := by
  refine FnOK.of_calls Tryd.func29 (by kernel_rfl) (by kernel_rfl) ?_
  rintro own w i r xs hf _ _ ⟨x, rfl, hx⟩
  have hf : smallF i = some r := hf
  unfold smallF at hf
  split at hf
  · rename_i hi
    cases hf
    have hx : [x] = [Value.int .i64 i] := hx
    injection hx with hx
    subst hx
    have h := Tryd.strconv_Itoa_small i.toNat (by omega) w
    rw [show ((i.toNat : Nat) : Int) = i by omega] at h
    exact h.mono fun e w' ⟨he, hw⟩ => ⟨[_], he, by rw [hw]; exact Below.refl _ _, _, rfl, rfl⟩
  · cases hf
end Go.Proofs.YtaakmifjkobkgaaDoor
