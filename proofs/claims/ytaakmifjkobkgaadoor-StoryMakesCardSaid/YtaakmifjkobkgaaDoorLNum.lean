/- The document's numeral is strconv.Itoa's; keys are the same. -/
import Derived.Test.YtaakmifjkobkgaaDoorGb
import Derived.Test.YtaakmifjkobkgaaDoorL0
import Derived.Lib.ItoaLen
namespace Go.Proofs.YtaakmifjkobkgaaDoor
open Go.Rf Go.Lib
theorem digit_byte {d : Int} (h0 : 0 ≤ d) (h1 : d < 10) : mkBytes [IntKind.u8.wrap (IntKind.i64.wrap (48 + d))] = ⟨#[UInt8.ofNat (48 + d.toNat)]⟩ := by
  obtain ⟨k, rfl⟩ := Int.eq_ofNat_of_zero_le h0
  have hk : k < 10 := by omega
  have : ∀ k : Fin 10, mkBytes [IntKind.u8.wrap (IntKind.i64.wrap (48 + ((k.val : Nat) : Int)))] = ⟨#[UInt8.ofNat (48 + k.val)]⟩ := by decide
  exact this ⟨k, hk⟩
theorem bytes_append (a b : List UInt8) : (⟨a.toArray⟩ : ByteArray) ++ ⟨b.toArray⟩ = ⟨(a ++ b).toArray⟩ := by
  apply ByteArray.ext
  simp
/-- A number without a sign. -/
theorem number_eq : ∀ (u : Nat), u ≤ 9223372036854775807 → ∀ k, nDigits u ≤ k → f30 k (u : Int) = some ⟨(decDigits u).toArray⟩ := by
  intro u
  induction u using Nat.strongRecOn with
  | _ u ih =>
    intro hu k hk
    have hp := nDigits_pos u
    obtain ⟨k, rfl⟩ : ∃ j, k = j + 1 := ⟨k - 1, by omega⟩
    rw [f30_eq, decide_eq_true (show (u : Int) ≥ 0 by omega)]
    simp only [cond_true]
    by_cases h : u < 10
    · rw [decide_eq_true (show (u : Int) < 10 by omega), decDigits, dif_pos h, digit_byte (by omega) (by omega)]
      rfl
    · rw [decide_eq_false (show ¬ (u : Int) < 10 by omega)]
      simp only [cond_false]
      rw [f30_7_eq, decide_eq_true (show (u : Int) ≥ 10 by omega), both_self]
      simp only [cond_true]
      have e1 : IntKind.i64.wrap ((u : Int).tdiv 10) = ((u / 10 : Nat) : Int) := by
        rw [show (u : Int).tdiv 10 = ((u / 10 : Nat) : Int) by rw [Int.tdiv_eq_ediv_of_nonneg (by omega)]; rfl]
        exact wI (by omega) (by omega)
      have e2 : (u : Int).tmod 10 = ((u % 10 : Nat) : Int) := by rw [Int.tmod_eq_emod_of_nonneg (by omega)]; rfl
      rw [e1, e2, ih (u / 10) (by omega) (by omega) k (by rw [nDigits_big h] at hk; omega), digit_byte (by omega) (by omega)]
      simp only [Option.bind_some]
      have hl := decDigits_length (u / 10)
      have hn := nDigits_le20 (u / 10) (by omega)
      have hs : (⟨(decDigits (u / 10)).toArray⟩ : ByteArray).size = nDigits (u / 10) := by rw [← hl]; rfl
      rw [decide_eq_false (by
        rw [hs, show (⟨#[UInt8.ofNat (48 + ((u % 10 : Nat) : Int).toNat)]⟩ : ByteArray).size = 1 from rfl]
        simp only [Int.ofNat_eq_natCast]
        omega)]
      simp only [cond_false]
      rw [show decDigits u = decDigits (u / 10) ++ [UInt8.ofNat (48 + u % 10)] by rw [decDigits, dif_neg h], ← bytes_append]
      rfl
theorem key_alike (n : Nat) (hn : 20 ≤ n) {i : Int} (hi : i64 i) : ∃ k, f15L n i = some k ∧ f16 n i = some k := by
  have step : ∀ u : Nat, u ≤ 9223372036854775807 → f29L n (u : Int) = some ⟨(decDigits u).toArray⟩ ∧ f30 n (u : Int) = some ⟨(decDigits u).toArray⟩ ∧ decide (((1 + ByteArray.size ⟨(decDigits u).toArray⟩ : Nat) : Int) > Int.ofNat (9223372036854775807 : Nat)) = false := by
    intro u hu
    have hn2 := nDigits_le20 u (by omega)
    refine ⟨?_, number_eq u hu n (by omega), ?_⟩
    · unfold f29L itoaF
      rw [if_pos ⟨by omega, by omega⟩, itoa_nonneg]
    · have hs : (⟨(decDigits u).toArray⟩ : ByteArray).size = nDigits u := by rw [← decDigits_length]; rfl
      rw [hs]
      apply decide_eq_false
      simp only [Int.ofNat_eq_natCast]
      omega
  rw [f15L_eq, f16_eq]
  by_cases h : i < 0
  · obtain ⟨a, b, c⟩ := step 0 (by omega)
    rw [decide_eq_true h, if_pos (by omega)]
    have a : f29L n 0 = _ := a
    have b : f30 n 0 = _ := b
    rw [a, b]
    simp only [cond_true, Option.bind_some]
    rw [c]
    exact ⟨_, rfl, rfl⟩
  · obtain ⟨u, rfl⟩ := Int.eq_ofNat_of_zero_le (show 0 ≤ i by omega)
    obtain ⟨a, b, c⟩ := step u (by have := hi.2; omega)
    rw [decide_eq_false h, if_neg (by omega), a, b]
    simp only [cond_false, Option.bind_some]
    rw [c]
    exact ⟨_, rfl, rfl⟩
end Go.Proofs.YtaakmifjkobkgaaDoor
