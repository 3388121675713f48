/- The document's way to a part: all products of digits, then bit by bit. -/
import Derived.Test.YtnlnfmakcnadlaaLDigit
namespace Go.Proofs.Ytnlnfmakcnadlaa
open Go.Rf
theorem pow16 (i : Nat) : (65536 : Nat) ^ i = 2 ^ (16 * i) := by rw [Nat.pow_mul]
theorem digit_at {w i : Nat} (hi : i ≤ 3) : ((w : Int).fdiv (2 ^ min (IntKind.u64.wrap (IntKind.i64.wrap (16 * (i : Int)))).toNat 64)).tmod 65536 = ((w / 65536 ^ i % 65536 : Nat) : Int) := by
  rw [wI (n := 16 * (i : Int)) (by omega) (by omega), show 16 * (i : Int) = ((16 * i : Nat) : Int) by omega, wUn (a := 16 * i) (by omega), toNat_min (b := 16 * i) (by omega), shr_nat, ← pow16]
  exact (Int.ofNat_tmod _ 65536).symm
theorem one_step {w t : Nat} {s : Int} (n : Nat) {i k : Nat} (hi : i ≤ 3) (hk : k ≤ 2) {m : Nat} (hm : 10 ≤ m) {l : List Nat} (hl : l.length = 8) (hd : ∀ x ∈ l, x < 65536) (hv : val8 l + 2 ^ 112 < 65536 ^ 8) :
    ∃ (m' : Nat) (l' : List Nat), m ≤ m' + 10 ∧ l'.length = 8 ∧ (∀ x ∈ l', x < 65536) ∧ val8 l' ≤ val8 l + 2 ^ 112 ∧
      val8 l' = val8 l + (w / 65536 ^ i % 65536) * (t / 65536 ^ k % 65536) * 65536 ^ (i + k) ∧
      f77_12 n m w t s i k (casts l) = f77_12 n m' w t s i ((k + 1 : Nat) : Int) (casts l') := by
  obtain ⟨m, rfl⟩ : ∃ q, m = q + 1 := ⟨m - 1, by omega⟩
  have ha : w / 65536 ^ i % 65536 < 65536 := Nat.mod_lt _ (by decide)
  have hb : t / 65536 ^ k % 65536 < 65536 := Nat.mod_lt _ (by decide)
  rw [f77_12_eq, decide_eq_true (show (k : Int) < 3 by omega), digit_at hi, digit_at (w := t) (i := k) (by omega), ← Int.natCast_mul]
  generalize w / 65536 ^ i % 65536 = a at ha ⊢
  generalize t / 65536 ^ k % 65536 = b at hb ⊢
  have hab : a * b ≤ 65535 * 65535 := Nat.mul_le_mul (by omega) (by omega)
  have h5 : 65536 ^ (i + k) ≤ 65536 ^ 5 := Nat.pow_le_pow_right (by decide) (by omega)
  have h6 : a * b * 65536 ^ (i + k) ≤ 65535 * 65535 * 65536 ^ 5 := Nat.mul_le_mul hab h5
  have h7 : a * b * 65536 ^ (i + k) ≤ 2 ^ 112 := Nat.le_trans h6 (by decide)
  obtain ⟨m', l', h1, h2, h3, h4, h8⟩ := carry_on (w := w) (t := t) (s := s) (i := i) (k := k) n (8 - (i + k)) (i + k) m (a * b) l (by omega) (by omega) hl hd (by omega) (by omega)
  refine ⟨m', l', by omega, h2, h3, by omega, h4, ?_⟩
  simp only [cond_true]
  rw [wI (n := 16 * (i : Int)) (by omega) (by omega), wI (n := 16 * (k : Int)) (by omega) (by omega), wU (n := 16 * (i : Int)) (by omega) (by omega), wU (n := 16 * (k : Int)) (by omega) (by omega),
    decide_eq_false (show ¬ 16 * (i : Int) < 0 by omega), decide_eq_false (show ¬ 16 * (k : Int) < 0 by omega), wUn (a := a * b) (by omega), wI (n := (i : Int) + (k : Int)) (by omega) (by omega),
    show (i : Int) + (k : Int) = ((i + k : Nat) : Int) by omega]
  simp only [cond_false]
  rw [h8, wI (n := (k : Int) + 1) (by omega) (by omega)]
  rfl
/-- One digit of a number times all of another one. -/
theorem one_row {w t : Nat} (ht : t < 2 ^ 48) {s : Int} (n : Nat) {i : Nat} (hi : i ≤ 3) {m : Nat} (hm : 32 ≤ m) {l : List Nat} (hl : l.length = 8) (hd : ∀ x ∈ l, x < 65536) (hv : val8 l + 3 * 2 ^ 112 < 65536 ^ 8) :
    ∃ (m' : Nat) (l' : List Nat), m ≤ m' + 32 ∧ l'.length = 8 ∧ (∀ x ∈ l', x < 65536) ∧ val8 l' ≤ val8 l + 3 * 2 ^ 112 ∧
      val8 l' = val8 l + (w / 65536 ^ i % 65536) * t * 65536 ^ i ∧ f77_6 n m w t s i (casts l) = f77_6 n m' w t s ((i + 1 : Nat) : Int) (casts l') := by
  obtain ⟨m, rfl⟩ : ∃ q, m = q + 1 := ⟨m - 1, by omega⟩
  obtain ⟨m1, l1, a1, b1, c1, d1, e1, g1⟩ := one_step (w := w) (t := t) (s := s) n hi (k := 0) (by omega) (m := m) (by omega) hl hd (by omega)
  obtain ⟨m2, l2, a2, b2, c2, d2, e2, g2⟩ := one_step (w := w) (t := t) (s := s) n hi (k := 1) (by omega) (m := m1) (by omega) b1 c1 (by omega)
  obtain ⟨m3, l3, a3, b3, c3, d3, e3, g3⟩ := one_step (w := w) (t := t) (s := s) n hi (k := 2) (by omega) (m := m2) (by omega) b2 c2 (by omega)
  obtain ⟨m4, rfl⟩ : ∃ q, m3 = q + 1 := ⟨m3 - 1, by omega⟩
  refine ⟨m4, l3, by omega, b3, c3, by omega, ?_, ?_⟩
  · have et : t = t / 65536 ^ 0 % 65536 + t / 65536 ^ 1 % 65536 * 65536 + t / 65536 ^ 2 % 65536 * 65536 ^ 2 := by
      simp only [Nat.pow_zero, Nat.pow_one, Nat.div_one]
      omega
    rw [e3, e2, e1]
    conv => rhs; rw [et]
    generalize w / 65536 ^ i % 65536 = a
    generalize t / 65536 ^ 0 % 65536 = x
    generalize t / 65536 ^ 1 % 65536 = y
    generalize t / 65536 ^ 2 % 65536 = z
    rw [Nat.pow_add, Nat.pow_add, Nat.pow_add]
    generalize 65536 ^ i = q
    grind
  · rw [f77_6_eq, decide_eq_true (show (i : Int) < 4 by omega)]
    simp only [cond_true]
    rw [show (0 : Int) = ((0 : Nat) : Int) from rfl, g1, g2, g3, f77_12_eq, decide_eq_false (show ¬ ((2 + 1 : Nat) : Int) < 3 by omega), wI (n := (i : Int) + 1) (by omega) (by omega)]
    rfl
end Go.Proofs.Ytnlnfmakcnadlaa
