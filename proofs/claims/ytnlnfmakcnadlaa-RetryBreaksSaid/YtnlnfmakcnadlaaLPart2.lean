/- The document's way to a part tells the product over a power of two. -/
import Derived.Test.YtnlnfmakcnadlaaLPiece
namespace Go.Proofs.Ytnlnfmakcnadlaa
open Go.Rf
theorem mod_or (y j : Nat) : y % 2 ^ (j + 1) = y % 2 ^ j ||| (if y / 2 ^ j % 2 = 1 then 2 ^ j else 0) := by
  apply Nat.eq_of_testBit_eq
  intro i
  rw [Nat.testBit_or, Nat.testBit_mod_two_pow, Nat.testBit_mod_two_pow]
  have hb : y.testBit j = decide (y / 2 ^ j % 2 = 1) := Nat.testBit_eq_decide_div_mod_eq
  by_cases h : y / 2 ^ j % 2 = 1
  · rw [if_pos h, Nat.testBit_two_pow]
    rw [decide_eq_true h] at hb
    by_cases hi : j = i
    · subst hi; simp [hb]
    · have e : decide (i < j + 1) = decide (i < j) := by simp; omega
      rw [e]; simp [hi]
  · rw [if_neg h]
    rw [decide_eq_false h] at hb
    by_cases hi : j = i
    · subst hi; simp [hb]
    · have e : decide (i < j + 1) = decide (i < j) := by simp; omega
      rw [e]; simp
/-- A bit of the number, by its digit. -/
theorem bit_at {l : List Nat} (hd : ∀ x ∈ l, x < 65536) (f : Nat) : l.getD (f / 16) 0 / 2 ^ (f % 16) % 2 = val8 l / 2 ^ f % 2 := by
  rw [← val8_digit l (f / 16) hd, pow16]
  have h : f = 16 * (f / 16) + f % 16 := by omega
  conv => rhs; rw [h, Nat.pow_add, ← Nat.div_div_eq_div_mul]
  generalize val8 l / 2 ^ (16 * (f / 16)) = y
  have hr : f % 16 < 16 := Nat.mod_lt _ (by decide)
  generalize f % 16 = r at hr
  have key : ∀ z : Nat, z / 2 ^ r % 2 = 1 ↔ z.testBit r = true := fun z => by rw [Nat.testBit_eq_decide_div_mod_eq, decide_eq_true_iff]
  have h1 : (y % 65536).testBit r = y.testBit r := by
    rw [show (65536 : Nat) = 2 ^ 16 from rfl, Nat.testBit_mod_two_pow, decide_eq_true hr, Bool.true_and]
  have h2 := key (y % 65536)
  have h3 := key y
  rw [h1] at h2
  have h4 : y % 65536 / 2 ^ r % 2 < 2 := Nat.mod_lt _ (by decide)
  have h5 : y / 2 ^ r % 2 < 2 := Nat.mod_lt _ (by decide)
  have h6 : y % 65536 / 2 ^ r % 2 = 1 ↔ y / 2 ^ r % 2 = 1 := h2.trans h3.symm
  generalize y % 65536 / 2 ^ r % 2 = p at *
  generalize y / 2 ^ r % 2 = q at *
  by_cases hp : p = 1
  · rw [hp, h6.1 hp]
  · by_cases hq : q = 1
    · exact (hp (h6.2 hq)).elim
    · omega
theorem bit_loop (n : Nat) {l : List Nat} (hl : l.length = 8) (hd : ∀ x ∈ l, x < 65536) {s : Nat} (hs : s ≤ 64) : ∀ (j bit m out : Nat), bit + j = 64 → j < m → out = val8 l / 2 ^ s % 2 ^ bit →
    f77_38 n m s out bit (casts l) = some ((val8 l / 2 ^ s % 2 ^ 64 : Nat) : Int) := by
  intro j
  induction j with
  | zero =>
    intro bit m out hj hm ho
    obtain ⟨m, rfl⟩ : ∃ q, m = q + 1 := ⟨m - 1, by omega⟩
    obtain rfl : bit = 64 := by omega
    rw [f77_38_eq, decide_eq_false (show ¬ ((64 : Nat) : Int) < 64 by decide), ho]
    rfl
  | succ j ih =>
    intro bit m out hj hm ho
    obtain ⟨m, rfl⟩ : ∃ q, m = q + 1 := ⟨m - 1, by omega⟩
    have ebit : val8 l / 2 ^ s / 2 ^ bit % 2 = val8 l / 2 ^ (bit + s) % 2 := by
      rw [Nat.div_div_eq_div_mul, ← Nat.pow_add, Nat.add_comm s bit]
    have hnext := mod_or (val8 l / 2 ^ s) bit
    rw [ebit] at hnext
    have hout : out < 18446744073709551616 := by
      have : val8 l / 2 ^ s % 2 ^ bit < 2 ^ bit := Nat.mod_lt _ (Nat.pow_pos (by decide))
      have := pow_63 (k := bit) (by omega)
      omega
    rw [f77_38_eq, decide_eq_true (show (bit : Int) < 64 by omega), wI (n := (bit : Int) + (s : Int)) (by omega) (by omega), wI (n := (bit : Int) + 1) (by omega) (by omega), show (bit : Int) + (s : Int) = ((bit + s : Nat) : Int) by omega,
      show (bit : Int) + 1 = ((bit + 1 : Nat) : Int) by omega]
    simp only [cond_true]
    by_cases hf : bit + s < 128
    · have et : ((bit + s : Nat) : Int).tdiv 16 = (((bit + s) / 16 : Nat) : Int) := (Int.ofNat_tdiv _ 16).symm
      have em : ((bit + s : Nat) : Int).tmod 16 = (((bit + s) % 16 : Nat) : Int) := (Int.ofNat_tmod _ 16).symm
      have hq : (bit + s) / 16 < 8 := by omega
      have hr : (bit + s) % 16 < 16 := Nat.mod_lt _ (by decide)
      have e2 : ∀ z : Nat, ((z : Nat) : Int).tmod 2 = ((z % 2 : Nat) : Int) := fun z => (Int.ofNat_tmod z 2).symm
      rw [decide_eq_true (show ((bit + s : Nat) : Int) < 128 by omega), et, em, wI (n := (((bit + s) / 16 : Nat) : Int)) (by omega) (by omega), wUn (a := (bit + s) % 16) (by omega), toNat_min (b := (bit + s) % 16) (by omega),
        Int.toNat_natCast, casts_getD, shr_nat, e2, bit_at hd, decide_eq_true (show (0 : Int) ≤ (((bit + s) / 16 : Nat) : Int) ∧ (((bit + s) / 16 : Nat) : Int) < ((8 : Nat) : Int) by omega),
        decide_eq_false (show ¬ (((bit + s) % 16 : Nat) : Int) < 0 by omega), wUn (a := bit) (by omega), toNat_min (b := bit) (by omega), decide_eq_false (show ¬ (bit : Int) < 0 by omega), Int.one_mul, two_pow,
        wUn (a := 2 ^ bit) (Nat.le_trans (pow_63 (by omega)) (by decide)), or_wrap hout (Nat.lt_of_le_of_lt (pow_63 (k := bit) (by omega)) (by decide))]
      simp only [cond_true, cond_false]
      by_cases h : val8 l / 2 ^ (bit + s) % 2 = 1
      · rw [h, show (((1 : Nat) : Int) == 1) = true from rfl]
        rw [if_pos h, ← ho] at hnext
        exact ih (bit + 1) m _ (by omega) (by omega) hnext.symm
      · rw [beq_false_of_ne (show ((val8 l / 2 ^ (bit + s) % 2 : Nat) : Int) ≠ 1 by omega)]
        rw [if_neg h, Nat.or_zero, ← ho] at hnext
        exact ih (bit + 1) m _ (by omega) (by omega) hnext.symm
    · rw [decide_eq_false (show ¬ ((bit + s : Nat) : Int) < 128 by omega)]
      have hz : val8 l / 2 ^ (bit + s) % 2 = 0 := by
        have h8 := val8_lt l hd
        rw [hl] at h8
        rw [Nat.div_eq_of_lt (Nat.lt_of_lt_of_le h8 (by rw [pow16]; exact Nat.pow_le_pow_right (by decide) (by omega)))]
      rw [if_neg (by omega), Nat.or_zero, ← ho] at hnext
      exact ih (bit + 1) m _ (by omega) (by omega) hnext.symm
theorem part_ref {n : Nat} (hn : 200 ≤ n) {w t s : Nat} (hw : w < 2 ^ 64) (ht : t < 2 ^ 48) (hs : s ≤ 64) : f77 n w t s = some ((w * t / 2 ^ s % 2 ^ 64 : Nat) : Int) := by
  have hz : val8 [0, 0, 0, 0, 0, 0, 0, 0] = 0 := rfl
  obtain ⟨m1, l1, a1, b1, c1, d1, e1, g1⟩ := one_row (w := w) ht (s := s) n (i := 0) (by omega) (m := n) (by omega) (l := [0, 0, 0, 0, 0, 0, 0, 0]) rfl (by simp) (by rw [hz]; decide)
  obtain ⟨m2, l2, a2, b2, c2, d2, e2, g2⟩ := one_row (w := w) ht (s := s) n (i := 1) (by omega) (m := m1) (by omega) b1 c1 (by omega)
  obtain ⟨m3, l3, a3, b3, c3, d3, e3, g3⟩ := one_row (w := w) ht (s := s) n (i := 2) (by omega) (m := m2) (by omega) b2 c2 (by omega)
  obtain ⟨m4, l4, a4, b4, c4, d4, e4, g4⟩ := one_row (w := w) ht (s := s) n (i := 3) (by omega) (m := m3) (by omega) b3 c3 (by omega)
  obtain ⟨m5, rfl⟩ : ∃ q, m4 = q + 1 := ⟨m4 - 1, by omega⟩
  have total : val8 l4 = w * t := by
    have ew : w = w / 65536 ^ 0 % 65536 + w / 65536 ^ 1 % 65536 * 65536 + w / 65536 ^ 2 % 65536 * 65536 ^ 2 + w / 65536 ^ 3 % 65536 * 65536 ^ 3 := by
      simp only [Nat.pow_zero, Nat.pow_one, Nat.div_one]
      omega
    rw [e4, e3, e2, e1, hz]
    conv => rhs; rw [ew]
    generalize w / 65536 ^ 0 % 65536 = x
    generalize w / 65536 ^ 1 % 65536 = y
    generalize w / 65536 ^ 2 % 65536 = z
    generalize w / 65536 ^ 3 % 65536 = u
    grind
  have hb := bit_loop n b4 c4 hs 64 0 m5 0 (by omega) (by omega) (by rw [Nat.pow_zero, Nat.mod_one])
  rw [f77_eq, ← total, ← hb]
  have e0 : ([(0 : Int), 0, 0, 0, 0, 0, 0, 0] : List Int) = casts [0, 0, 0, 0, 0, 0, 0, 0] := rfl
  rw [e0, show (0 : Int) = ((0 : Nat) : Int) from rfl, g1, g2, g3, g4, f77_6_eq, decide_eq_false (show ¬ ((3 + 1 : Nat) : Int) < 4 by omega)]
  rfl
end Go.Proofs.Ytnlnfmakcnadlaa
