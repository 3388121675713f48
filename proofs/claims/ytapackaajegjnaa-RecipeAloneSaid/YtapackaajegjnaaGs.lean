/- slices.Sort and slices.Compact over whole numbers, by the library's contracts. -/
import Derived.Test.YtapackaajegjnaaRfU
import Derived.Test.YtapackaajegjnaaSh
import Derived.Lib.RowBridge
namespace Go.Proofs.Ytapackaajegjnaa
open Go.Rf Go.RowKit
noncomputable def sortF (l : List Int) : Option (List Int) := if l.length < 4611686018427387904 then some (l.mergeSort fun x y => decide (x ≤ y)) else none
noncomputable def e33o (_ : Nat) : OE := inPlaceE 33 3 sortF
noncomputable def f33o (_ : Nat) (l : List Int) : Option (Unit × (List Int × Unit)) := (sortF l).map fun l => ((), (l, ()))
theorem ok33o {W0 : World} (n : Nat) : OOK Try.prog W0 (e33o n) := by
  refine inPlace_ok Try.func33 (by kernel_rfl) (by kernel_rfl) ?_ ?_ ?_
  · intro l r h
    unfold sortF at h
    split at h
    · cases h; exact List.length_mergeSort _
    · cases h
  · intro g cap l r w h _ hH hlt _ _
    unfold sortF at h
    split at h
    · rename_i hs
      cases h
      exact (Try.slices_Sort_int g 0 cap l w hH hlt hs).mono fun e w' h => h
    · cases h
  · intro p cap w
    exact Try.slices_Sort_int_none p cap w
noncomputable def compactF (l : List Int) : Option (List Int) := some (Lib.compact l)
noncomputable def e34o (_ : Nat) : OE := headE 34 3 compactF
noncomputable def f34o (_ : Nat) (l : List Int) : Option (Unit × (List Int × Unit)) := (compactF l).map fun l => ((), (l, ()))
theorem ok34o {W0 : World} (n : Nat) : OOK Try.prog W0 (e34o n) := by
  refine head_ok Try.func34 (by kernel_rfl) (by kernel_rfl) ?_ ?_ ?_
  · intro l r h
    cases h
    exact Lib.compact_length_le l
  · intro g cap l r w h _ hH _ hle hcm
    cases h
    refine (Try.slices_Compact_int g 0 cap l w hH (by unfold maxLen at hcm; omega) hle).mono fun e w' ⟨he, q, hw⟩ => ⟨he, q, Lib.compact l ++ List.replicate (l.length - (Lib.compact l).length) 0, #[], ?_, List.take_left, ?_⟩
    · have := Lib.compact_length_le l
      rw [List.length_append, List.length_replicate]
      omega
    · rw [Sort.grow_empty]; exact hw
  · intro p cap w
    exact Try.slices_Compact_int_empty p cap w
end Go.Proofs.Ytapackaajegjnaa
