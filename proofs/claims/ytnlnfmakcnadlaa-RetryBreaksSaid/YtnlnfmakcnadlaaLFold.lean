/- A number's bits are laid over one another alike: by pieces, and bit by bit. -/
import Derived.Test.YtnlnfmakcnadlaaLPart
namespace Go.Proofs.Ytnlnfmakcnadlaa
open Go.Rf
/-- The bits from one on, so many, laid over one another. -/
def laidF (X B : Nat) : Nat → Nat → Nat
  | 0, _ => 0
  | k + 1, i => (if X / 2 ^ i % 2 = 1 then 2 ^ (i % B) else 0) ^^^ laidF X B k (i + 1)
theorem mod_xor (y j : Nat) : y % 2 ^ (j + 1) = y % 2 ^ j ^^^ (if y / 2 ^ j % 2 = 1 then 2 ^ j else 0) := by
  apply Nat.eq_of_testBit_eq
  intro i
  rw [Nat.testBit_xor, Nat.testBit_mod_two_pow, Nat.testBit_mod_two_pow]
  have hb : y.testBit j = decide (y / 2 ^ j % 2 = 1) := Nat.testBit_eq_decide_div_mod_eq
  by_cases h : y / 2 ^ j % 2 = 1
  · rw [if_pos h, Nat.testBit_two_pow]
    rw [decide_eq_true h] at hb
    by_cases hi : j = i
    · subst hi; simp [hb]
    · have e : decide (i < j + 1) = decide (i < j) := by simp; omega
      rw [e]; simp [hi]
  · rw [if_neg h]
    rw [decide_eq_false h] at hb
    by_cases hi : j = i
    · subst hi; simp [hb]
    · have e : decide (i < j + 1) = decide (i < j) := by simp; omega
      rw [e]; simp
theorem laid_zero {X B : Nat} : ∀ (k i : Nat), X / 2 ^ i = 0 → laidF X B k i = 0
  | 0, _, _ => rfl
  | k + 1, i, h => by
    have h2 : X / 2 ^ (i + 1) = 0 := by rw [Nat.pow_succ, ← Nat.div_div_eq_div_mul, h]
    simp [laidF, h, laid_zero k (i + 1) h2]
theorem laid_more {X B : Nat} (hX : X < 2 ^ 64) : ∀ (k i : Nat), 64 ≤ i + k → laidF X B (k + 1) i = laidF X B k i
  | 0, i, h => by
    have : X / 2 ^ i = 0 := Nat.div_eq_of_lt (Nat.lt_of_lt_of_le hX (Nat.pow_le_pow_right (by decide) (by omega)))
    rw [laid_zero _ _ this, laid_zero _ _ this]
  | k + 1, i, h => by
    have := laid_more (B := B) hX k (i + 1) (by omega)
    show (if X / 2 ^ i % 2 = 1 then 2 ^ (i % B) else 0) ^^^ laidF X B (k + 1) (i + 1) = (if X / 2 ^ i % 2 = 1 then 2 ^ (i % B) else 0) ^^^ laidF X B k (i + 1)
    rw [this]
theorem laid_add {X B : Nat} (hX : X < 2 ^ 64) (k : Nat) : ∀ (j i : Nat), 64 ≤ i + k → laidF X B (k + j) i = laidF X B k i
  | 0, _, _ => rfl
  | j + 1, i, h => by rw [← Nat.add_assoc, laid_more hX _ _ (by omega), laid_add hX k j i h]
theorem laid_piece {X B : Nat} (i : Nat) (hi : i % B = 0) : ∀ (j k : Nat), j ≤ B → laidF X B (k + j) i = (X / 2 ^ i % 2 ^ j) ^^^ laidF X B k (i + j)
  | 0, k, _ => by simp [Nat.mod_one]
  | j + 1, k, h => by
    rw [show k + (j + 1) = (k + 1) + j by omega, laid_piece i hi j (k + 1) (by omega), mod_xor, laidF, Nat.div_div_eq_div_mul, ← Nat.pow_add]
    have e : (i + j) % B = j := by rw [Nat.add_mod, hi, Nat.zero_add, Nat.mod_mod, Nat.mod_eq_of_lt (by omega)]
    rw [e, show i + j + 1 = i + (j + 1) by omega, Nat.xor_assoc]
theorem xor_wrap {a b : Nat} (ha : a < 18446744073709551616) (hb : b < 18446744073709551616) :
    IntKind.u64.wrap ↑(BitVec.ofInt 64 (a : Int) ^^^ BitVec.ofInt 64 (b : Int)).toNat = ((a ^^^ b : Nat) : Int) := bits_xor_u64_nat a b ha hb
theorem and_wrap {a b : Nat} (ha : a < 18446744073709551616) (hb : b < 18446744073709551616) :
    IntKind.u64.wrap ↑(BitVec.ofInt 64 (a : Int) &&& BitVec.ofInt 64 (b : Int)).toNat = ((a &&& b : Nat) : Int) := bits_and_u64_nat a b ha hb
theorem wUn {a : Nat} (h : a ≤ 18446744073709551615) : IntKind.u64.wrap (a : Int) = a := wU (by omega) (by omega)
theorem two_pow (k : Nat) : (2 : Int) ^ k = ((2 ^ k : Nat) : Int) := by simp
theorem pow_63 {k : Nat} (h : k ≤ 63) : (2 : Nat) ^ k ≤ 9223372036854775808 := Nat.pow_le_pow_right (by decide) h
theorem shr_nat (X k : Nat) : (X : Int).fdiv (2 ^ k) = ((X / 2 ^ k : Nat) : Int) := by
  rw [Int.fdiv_eq_ediv_of_nonneg _ (Int.le_of_lt (pow_pos2 k)), two_pow]
  rfl
theorem fold_ref {X B : Nat} (hB : 1 ≤ B ∧ B ≤ 64) (n : Nat) : ∀ (k i m O : Nat), i + k = 64 → k < m → O < 18446744073709551616 →
    f63_10 n m X B O i = some (((O ^^^ laidF X B k i : Nat) : Int), 0) := by
  intro k
  induction k with
  | zero =>
    intro i m O hk hm hO
    obtain ⟨m, rfl⟩ : ∃ q, m = q + 1 := ⟨m - 1, by omega⟩
    rw [f63_10_eq, decide_eq_false (by omega)]
    simp [laidF]
  | succ k ih =>
    intro i m O hk hm hO
    obtain ⟨m, rfl⟩ : ∃ q, m = q + 1 := ⟨m - 1, by omega⟩
    have hmod : i % B < B := Nat.mod_lt _ (by omega)
    have hp : 2 ^ (i % B) ≤ 9223372036854775808 := pow_63 (by omega)
    have e1 : (i : Int).tmod (B : Int) = ((i % B : Nat) : Int) := Int.ofNat_tmod _ _ |>.symm
    rw [f63_10_eq, decide_eq_true (by omega)]
    simp only [cond_true]
    rw [e1, wU (n := ((i % B : Nat) : Int)) (by omega) (by omega), wU (n := (i : Int)) (by omega) (by omega), toNat_min (b := i) (by omega), toNat_min (b := i % B) (by omega), shr_nat, Int.one_mul, two_pow,
      wUn (a := 2 ^ (i % B)) (Nat.le_trans hp (by decide)), xor_wrap hO (by omega), wI (n := (i : Int) + 1) (by omega) (by omega), decide_eq_false (show ¬ (i : Int) < 0 by omega),
      decide_eq_false (show ¬ (B : Int) = 0 by omega), decide_eq_false (show ¬ ((i % B : Nat) : Int) < 0 by omega)]
    simp only [cond_false]
    have e2 : ((X / 2 ^ i : Nat) : Int).tmod 2 = ((X / 2 ^ i % 2 : Nat) : Int) := (Int.ofNat_tmod (X / 2 ^ i) 2).symm
    rw [e2, show (i : Int) + 1 = ((i + 1 : Nat) : Int) by omega]
    rw [laidF]
    by_cases h : X / 2 ^ i % 2 = 1
    · rw [h, if_pos rfl]
      have hx : O ^^^ 2 ^ (i % B) < 2 ^ 64 := Nat.xor_lt_two_pow (by omega) (by omega)
      have := ih (i + 1) m (O ^^^ 2 ^ (i % B)) (by omega) (by omega) (by omega)
      rw [← Nat.xor_assoc, ← this]
      rfl
    · rw [if_neg h, Nat.zero_xor, beq_false_of_ne (by omega)]
      exact ih (i + 1) m O (by omega) (by omega) hO
theorem fold_go {X B : Nat} (hX : X < 2 ^ 64) (hB : 1 ≤ B ∧ B ≤ 63) (n : Nat) : ∀ (k i m O : Nat), 64 ≤ i + k → k < m → i % B = 0 → O < 18446744073709551616 →
    f62_12 n m ((X / 2 ^ i : Nat) : Int) B O = some (((O ^^^ laidF X B 64 i : Nat) : Int), 0) := by
  intro k
  induction k with
  | zero =>
    intro i m O hk hm hi hO
    obtain ⟨m, rfl⟩ : ∃ q, m = q + 1 := ⟨m - 1, by omega⟩
    have h0 : X / 2 ^ i = 0 := Nat.div_eq_of_lt (Nat.lt_of_lt_of_le hX (Nat.pow_le_pow_right (by decide) (by omega)))
    rw [h0, f62_12_eq, laid_zero _ _ h0]
    simp
  | succ k ih =>
    intro i m O hk hm hi hO
    obtain ⟨m, rfl⟩ : ∃ q, m = q + 1 := ⟨m - 1, by omega⟩
    by_cases h0 : X / 2 ^ i = 0
    · rw [h0, f62_12_eq, laid_zero _ _ h0]
      simp
    · have hp : 2 ^ B ≤ 9223372036854775808 := pow_63 hB.2
      have hp0 : 0 < 2 ^ B := Nat.pow_pos (by decide)
      have hle : X / 2 ^ i ≤ X := Nat.div_le_self _ _
      have hlt : X / 2 ^ i < 18446744073709551616 := by omega
      rw [f62_12_eq, decide_eq_true (show ((X / 2 ^ i : Nat) : Int) > 0 from Int.natCast_pos.2 (Nat.pos_of_ne_zero h0)), decide_eq_false (show ¬ (B : Int) < 0 by omega)]
      simp only [cond_true, cond_false]
      rw [toNat_min (b := B) (by omega), shr_nat, Int.one_mul, two_pow, wUn (a := 2 ^ B) (Nat.le_trans hp (by decide)),
        show ((2 ^ B : Nat) : Int) - 1 = ((2 ^ B - 1 : Nat) : Int) from (Int.ofNat_sub hp0).symm, wUn (a := 2 ^ B - 1) (Nat.le_trans (Nat.sub_le _ _) (Nat.le_trans hp (by decide))), and_wrap hlt (by omega), Nat.and_two_pow_sub_one_eq_mod,
        xor_wrap hO (Nat.lt_of_le_of_lt (Nat.mod_le _ _) hlt), Nat.div_div_eq_div_mul, ← Nat.pow_add]
      have hx : O ^^^ X / 2 ^ i % 2 ^ B < 2 ^ 64 := Nat.xor_lt_two_pow (by omega) (Nat.lt_of_le_of_lt (Nat.mod_le _ _) hlt)
      rw [ih (i + B) m _ (by omega) (by omega) (by rw [Nat.add_mod_right]; exact hi) (by omega)]
      rw [Nat.xor_assoc, ← laid_piece i hi B 64 (Nat.le_refl _), laid_add hX 64 B i (by omega)]
theorem fold_alike {n : Nat} (hn : 66 ≤ n) {x bits : Int} (hx : u64 x) : f62 n x bits = f63 n x bits ∧ ∃ r, f62 n x bits = some r := by
  rw [f62_eq, f63_eq]
  by_cases h1 : bits < 1
  · rw [decide_eq_true h1]; exact ⟨rfl, _, rfl⟩
  · rw [decide_eq_false h1]
    by_cases h2 : bits > 64
    · rw [decide_eq_true h2]; exact ⟨rfl, _, rfl⟩
    · rw [decide_eq_false h2]
      simp only [cond_false]
      obtain ⟨X, rfl⟩ := Int.eq_ofNat_of_zero_le hx.1
      obtain ⟨B, rfl⟩ := Int.eq_ofNat_of_zero_le (show 0 ≤ bits by omega)
      have hX : X < 2 ^ 64 := by have := hx.2; omega
      have hr := fold_ref (X := X) (B := B) (by omega) n 64 0 n 0 (by omega) (by omega) (by decide)
      rw [show ((0 : Nat) : Int) = 0 from rfl, Nat.zero_xor] at hr
      rw [hr]
      by_cases h3 : B = 64
      · subst h3
        have hp := laid_piece (X := X) (B := 64) 0 rfl 64 0 (Nat.le_refl _)
        rw [Nat.pow_zero, Nat.div_one, Nat.zero_add] at hp
        rw [hp, Nat.mod_eq_of_lt hX, laidF, Nat.xor_zero]
        exact ⟨rfl, _, rfl⟩
      · have hg := fold_go (B := B) hX (by omega) n 64 0 n 0 (by omega) (by omega) (Nat.zero_mod _) (by decide)
        rw [show ((0 : Nat) : Int) = 0 from rfl, Nat.zero_xor, Nat.pow_zero, Nat.div_one] at hg
        rw [beq_false_of_ne (by omega)]
        simp only [cond_false]
        rw [hg]
        exact ⟨rfl, _, rfl⟩
theorem ticks_parts {n : Nat} (hn : 66 ≤ n) {x parts bits : Int} (hx : u64 x) (hp : i64 parts) : f12 (n + 4) x parts bits = some true := by
  obtain ⟨a, e, h1, h2, h3⟩ := part_alike (n + 4) hx hp
  obtain ⟨h4, r, hr⟩ := fold_alike (show 66 ≤ n + 4 by omega) (bits := bits) hx
  rw [f12_eq, h1, h2, ← h4, hr, awake_tick]
  simp only [Option.bind_some, cond_true, beq_self_eq_true]
  by_cases h : e = 0
  · obtain ⟨h5, h6⟩ := h3 h
    subst h
    rw [decide_eq_true h5, decide_eq_true h6]
    rfl
  · rw [show (e != 0) = true by simp [h]]
    rfl
end Go.Proofs.Ytnlnfmakcnadlaa
