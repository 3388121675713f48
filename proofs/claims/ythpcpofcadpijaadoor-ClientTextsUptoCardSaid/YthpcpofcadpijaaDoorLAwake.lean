/- The plain law of awake, and of ClientNil. -/
import Derived.Test.YthpcpofcadpijaaDoorGe
namespace Go.Proofs.YthpcpofcadpijaaDoor
open Go.Rf
theorem f29_sleep (n : Nat) : f29 n 8 = some (s29x7, false, false, true, 4611686018427387904) := by rw [f29_eq]; rfl
theorem key_none : (((0 : Int), ByteArray.empty) : Int × ByteArray).fst = 0 := rfl
theorem empty_toList : ByteArray.empty.toList = [] := by rw [Lib.toList_data]; rfl
theorem sleep_toList : s29x7.toList = [115, 108, 101, 101, 112] := by rw [Lib.toList_data]; rfl
abbrev doSleep : Int × ((Int × ByteArray) × (Int × Int)) := (8, (0, ByteArray.empty), 5, 0)
set_option maxRecDepth 100000 in
theorem f39_sleep (n : Nat) (hn : 0 < n) : f39 n doSleep = some true := by
  rw [f39_eq, f29_sleep]
  obtain ⟨m, rfl⟩ : ∃ m, n = m + 1 := ⟨n - 1, by omega⟩
  simp only [Option.bind_some, sleep_toList, empty_toList, f39_21_eq]
  rfl
theorem wrap1 (i : Int) (h0 : 0 ≤ i) (h1 : i < 1000) : Go.IntKind.i64.wrap (i + 1) = i + 1 := by
  unfold IntKind.wrap
  simp [IntKind.bits, IntKind.signed]
  omega
theorem f23_sleep (n : Nat) (hn : 1 < n) : f23 n [doSleep] = some (0, 0) := by
  obtain ⟨m, rfl⟩ : ∃ m, n = m + 1 + 1 := ⟨n - 2, by omega⟩
  rw [f23_eq, f23_8_eq]
  have h := f39_sleep (m + 1 + 1) (by omega)
  simp only [List.length_cons, List.length_nil, List.getD_cons_zero, Int.toNat_zero]
  rw [h]
  simp only [Option.bind_some, Bool.not_true, cond_false, f23_8_eq]
  rfl
noncomputable def five : ByteArray := ⟨#[53]⟩
noncomputable def sleep5 : ByteArray := ⟨#[115, 108, 101, 101, 112, 32, 53]⟩
theorem f57_five (n : Nat) : f57 n 5 10 = some five := by kernel_rfl
theorem f58_sleep (n : Nat) : f58 n [s29x7, five] s42x0 = some sleep5 := by
  unfold f58 joinF
  rw [if_pos ⟨by simp, by decide, by decide⟩]
  rfl
theorem f42_sleep (n : Nat) : f42 n doSleep = some sleep5 := by
  rw [f42_eq, f29_sleep]
  simp only [Option.bind_some, cond_false, cond_true]
  rw [f57_five]
  simp only [Option.bind_some]
  rw [f58_sleep]
  rfl
theorem f40_none (n : Nat) : f40 n ByteArray.empty s24x0 = some false := by kernel_rfl
theorem f24_sleep (n : Nat) (hn : 1 < n) : f24 n [doSleep] = some (s8x0, 0, 0) := by
  obtain ⟨m, rfl⟩ : ∃ m, n = m + 1 + 1 := ⟨n - 2, by omega⟩
  rw [f24_eq, f23_sleep _ (by omega), f24_12_eq]
  have h1 := f40_none (m + 1 + 1)
  have h2 := f42_sleep (m + 1 + 1)
  simp only [Option.bind_some, List.length_cons, List.length_nil, List.getD_cons_zero, Int.toNat_zero, h1]
  rw [h2]
  simp only [Option.bind_some]
  have h3 : f41z (m + 1 + 1) (sleep5 ++ s24x0) [] [] = some ((), (((), ((), [])), (bytesL s8x0, ()))) := by kernel_rfl
  rw [h3]
  simp only [Option.bind_some, f24_1000012_eq]
  have h4 : f43u (m + 1 + 1) [] (bytesL s8x0) = some (s8x0, (((), ((), [])), ())) := by kernel_rfl
  rw [h4]
  rfl
theorem f31_sleep (n : Nat) : f31 n [doSleep] = some [doSleep] := by
  rw [f31_eq]
  rfl
/-- New's loop over the slots. -/
theorem f9o_loop (n : Nat) (l : List (Int × ((Int × ByteArray) × (Int × Int)))) (a t : Int) (g : List (Int × (Int × ((Int × (Int × (Int × Int))) × Int)))) : ∀ (k m : Nat) (i : Int) (b : List (Int × (Int × (Int × (Int × ((Int × (Int × (Int × Int))) × Int)))))), 0 ≤ i → i + k = 16 → k < m →
    ∃ b', f9o_12 n m i l a t b g = some (Sum.inr ((((), (0 : Int), (0 : Int)), ((l, (a, (t, ((), b')))), g, ())))) := by
  intro k
  induction k with
  | zero =>
    intro m i b h0 h1 h2
    obtain ⟨m, rfl⟩ : ∃ m', m = m' + 1 := ⟨m - 1, by omega⟩
    refine ⟨b, ?_⟩
    rw [f9o_12_eq]
    have : i = 16 := by omega
    subst this
    rfl
  | succ k ih =>
    intro m i b h0 h1 h2
    obtain ⟨m, rfl⟩ : ∃ m', m = m' + 1 := ⟨m - 1, by omega⟩
    rw [f9o_12_eq]
    have e1 : decide (i < (16 : Int)) = true := by simp; omega
    have e2 : decide ((0 : Int) ≤ i ∧ i < ((16 : Nat) : Int)) = true := by simp; omega
    rw [e1, e2, wrap1 i h0 (by omega)]
    simp only [cond_true]
    exact ih m (i + 1) _ (by omega) (by omega) (by omega)
theorem f9o_sleep (n : Nat) (hn : 17 < n) : ∃ b', f9o n [doSleep] = some (Sum.inr ((((), (0 : Int), (0 : Int)), (([doSleep], (0, (0, ((), b')))), [], ())))) := by
  obtain ⟨b', h⟩ := f9o_loop n [doSleep] 0 0 [] 16 n 0 (List.replicate (16 : Nat) ((0 : Int), (0 : Int), (0 : Int), (0 : Int), ((0 : Int), (0 : Int), (0 : Int), (0 : Int)), (0 : Int))) (by omega) (by omega) (by omega)
  refine ⟨b', ?_⟩
  rw [f9o_eq, f23_sleep n (by omega), f31_sleep]
  simp only [Option.bind_some]
  rw [← h]
  rfl
theorem f8_true (n : Nat) (hn : 17 < n) : f8 n = some true := by
  obtain ⟨b', h⟩ := f9o_sleep n hn
  rw [f8_eq, f24_sleep n (by omega), h]
  simp only [Option.bind_some, Sum.elim_inr, f13o_eq]
  have e : (ByteArray.toList s8x0 == s8x0.toList) = true := by simp
  rw [e]
  rfl
theorem f5_true (n : Nat) (hn : 17 < n) (x : (Int × (Int × (Int × (Int × (Int × ((Int × (Int × (Int × Int))) × Int))))))) : f5 n x = some true := by
  rw [f5_eq, f8_true n hn]
  simp only [f13z_eq, f16z_eq, f36z_eq, f17z_eq, f14z_eq, f18z_eq, f19z_eq, f20z_eq, f21z_eq, f15z_eq, f22z_eq, Option.bind_some]
  rfl
end Go.Proofs.YthpcpofcadpijaaDoor
