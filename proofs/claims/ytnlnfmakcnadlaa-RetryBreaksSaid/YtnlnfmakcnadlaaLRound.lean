/- Ticks are rounded alike, and times doubled alike. -/
import Derived.Test.YtnlnfmakcnadlaaLMix
namespace Go.Proofs.Ytnlnfmakcnadlaa
open Go.Rf
theorem pow_pos2 (k : Nat) : (0 : Int) < 2 ^ k := Int.pow_pos (by decide)
theorem pow_le2 {i k : Nat} (h : i ≤ k) : (2 : Int) ^ i ≤ 2 ^ k := by
  have e : ∀ j, (2 : Int) ^ j = ((2 ^ j : Nat) : Int) := fun j => by simp
  have := Nat.pow_le_pow_right (show 2 > 0 by decide) h
  rw [e, e]
  omega
theorem pow_62 {i : Nat} (h : i ≤ 62) : (2 : Int) ^ i ≤ 4611686018427387904 := pow_le2 h
theorem pow_succ2 (i : Nat) : (2 : Int) ^ (i + 1) = 2 ^ i * 2 := Int.pow_succ _ _
theorem toNat_min {b : Nat} (h : b ≤ 64) : min ((b : Int).toNat) 64 = b := by rw [Int.toNat_natCast]; omega
/-- Down to a power of two. -/
def dn (t : Int) (b : Nat) : Int := t / 2 ^ b * 2 ^ b
theorem dn_ok {t : Int} (h : 0 ≤ t) (b : Nat) : 0 ≤ dn t b ∧ dn t b ≤ t := by
  unfold dn
  exact ⟨Int.mul_nonneg (Int.ediv_nonneg h (Int.le_of_lt (pow_pos2 b))) (Int.le_of_lt (pow_pos2 b)), Int.ediv_mul_le t (Int.ne_of_gt (pow_pos2 b))⟩
def downErr (t bits : Int) : Int := bif !isT t then 10 else bif decide (bits < 0) then 12 else bif decide (bits > 62) then 12 else 0
def downF (t bits : Int) : Int × Int := if downErr t bits = 0 then (dn t bits.toNat, 0) else (0, downErr t bits)
theorem aligned_go (n : Nat) (t bits : Int) : f86 n t bits = some (downErr t bits) := by
  rw [f86_eq, is_go]
  unfold downErr
  simp only [Option.bind_some]
  cases isT t
  · rfl
  · cases decide (bits < 0)
    · cases decide (bits > 62) <;> rfl
    · rfl
theorem err_zero {t bits : Int} (h : downErr t bits = 0) : (0 ≤ t ∧ t ≤ 4611686018427387904) ∧ 0 ≤ bits ∧ bits ≤ 62 := by
  unfold downErr at h
  cases h1 : isT t
  · rw [h1] at h; exact absurd h (by simp)
  · rw [h1] at h
    unfold isT at h1
    refine ⟨of_decide_eq_true h1, ?_⟩
    by_cases h2 : bits < 0
    · rw [decide_eq_true h2] at h; exact absurd h (by simp)
    · rw [decide_eq_false h2] at h
      by_cases h3 : bits > 62
      · rw [decide_eq_true h3] at h; exact absurd h (by simp)
      · omega
theorem down_go (n : Nat) (t bits : Int) : f54 n t bits = some (downF t bits) := by
  rw [f54_eq, aligned_go]
  unfold downF
  simp only [Option.bind_some]
  by_cases h : downErr t bits = 0
  · obtain ⟨ht, h0, h1⟩ := err_zero h
    rw [h, if_pos rfl, show ((0 : Int) != 0) = false from rfl, decide_eq_false (show ¬ bits < 0 by omega)]
    simp only [cond_false]
    obtain ⟨b, rfl⟩ := Int.eq_ofNat_of_zero_le h0
    have e := toNat_min (b := b) (by omega)
    rw [e, Int.toNat_natCast, Int.fdiv_eq_ediv_of_nonneg _ (Int.le_of_lt (pow_pos2 b))]
    have := dn_ok ht.1 b
    unfold dn at this ⊢
    rw [wI (by omega) (by omega)]
  · rw [if_neg h, show (downErr t bits != 0) = true by simp [h]]
    rfl
theorem down_loop {t : Int} (ht : 0 ≤ t ∧ t ≤ 4611686018427387904) {b : Nat} (hb : b ≤ 62) (n : Nat) : ∀ (k i m : Nat), b = i + k → k < m → f55_14 n m t b (2 ^ i) i = some (dn t b, 0) := by
  intro k
  induction k with
  | zero =>
    intro i m hk hm
    obtain ⟨m, rfl⟩ : ∃ q, m = q + 1 := ⟨m - 1, by omega⟩
    obtain rfl : b = i := by omega
    have hp := pow_pos2 b
    rw [f55_14_eq, decide_eq_false (by omega), decide_eq_false (by omega)]
    simp only [cond_false]
    have h1 := dn_ok ht.1 b
    have h2 := Int.mul_ediv_add_emod t (2 ^ b)
    have e : t - t.tmod (2 ^ b) = dn t b := by
      rw [Int.tmod_eq_emod_of_nonneg ht.1]
      unfold dn
      rw [Int.mul_comm]
      omega
    rw [e, wI (by omega) (by omega)]
  | succ k ih =>
    intro i m hk hm
    obtain ⟨m, rfl⟩ : ∃ q, m = q + 1 := ⟨m - 1, by omega⟩
    have h1 := pow_62 (i := i + 1) (by omega)
    have hp := pow_pos2 (i + 1)
    rw [f55_14_eq, decide_eq_true (by omega)]
    simp only [cond_true]
    rw [← pow_succ2, wI (by omega) (by omega), wI (n := (i : Int) + 1) (by omega) (by omega)]
    exact ih (i + 1) m (by omega) (by omega)
theorem down_ref {n : Nat} (hn : 63 ≤ n) (t bits : Int) : f55 n t bits = some (downF t bits) := by
  rw [f55_eq, is_ref]
  unfold downF
  simp only [Option.bind_some]
  by_cases h : downErr t bits = 0
  · obtain ⟨ht, h0, h1⟩ := err_zero h
    rw [if_pos h]
    have h2 : isT t = true := decide_eq_true ht
    rw [h2, decide_eq_false (show ¬ bits < 0 by omega), decide_eq_false (show ¬ bits > 62 by omega)]
    simp only [Bool.not_true, cond_false]
    obtain ⟨b, rfl⟩ := Int.eq_ofNat_of_zero_le h0
    exact down_loop ht (by omega) n b 0 n (by omega) (by omega)
  · rw [if_neg h]
    unfold downErr at h ⊢
    cases h1 : isT t
    · rfl
    · rw [h1] at h
      by_cases h2 : bits < 0
      · rw [decide_eq_true h2]; rfl
      · rw [decide_eq_false h2] at h ⊢
        by_cases h3 : bits > 62
        · rw [decide_eq_true h3]; rfl
        · rw [decide_eq_false h3] at h; exact absurd rfl h
theorem up_loop {d : Int} {b : Nat} (hb : b ≤ 62) (n : Nat) : ∀ (k i m : Nat), b = i + k → k < m → f57_12 n m b d (2 ^ i) i = some (IntKind.i64.wrap (d + 2 ^ b), 0) := by
  intro k
  induction k with
  | zero =>
    intro i m hk hm
    obtain ⟨m, rfl⟩ : ∃ q, m = q + 1 := ⟨m - 1, by omega⟩
    obtain rfl : b = i := by omega
    rw [f57_12_eq, decide_eq_false (by omega)]
    rfl
  | succ k ih =>
    intro i m hk hm
    obtain ⟨m, rfl⟩ : ∃ q, m = q + 1 := ⟨m - 1, by omega⟩
    have h1 := pow_62 (i := i + 1) (by omega)
    have hp := pow_pos2 (i + 1)
    rw [f57_12_eq, decide_eq_true (by omega)]
    simp only [cond_true]
    rw [← pow_succ2, wI (by omega) (by omega), wI (n := (i : Int) + 1) (by omega) (by omega)]
    exact ih (i + 1) m (by omega) (by omega)
theorem up_alike {n : Nat} (hn : 63 ≤ n) (t bits : Int) : f56 n t bits = f57 n t bits ∧ ∃ r, f56 n t bits = some r := by
  rw [f56_eq, f57_eq, down_go, down_ref hn]
  simp only [Option.bind_some]
  unfold downF
  by_cases h : downErr t bits = 0
  · obtain ⟨ht, h0, h1⟩ := err_zero h
    rw [if_pos h]
    simp only [bne_self_eq_false, cond_false]
    cases dn t bits.toNat == t
    · simp only [cond_false]
      rw [decide_eq_false (by omega)]
      obtain ⟨b, rfl⟩ := Int.eq_ofNat_of_zero_le h0
      have hl := up_loop (d := dn t (b : Int).toNat) (b := b) (by omega) n b 0 n (by omega) (by omega)
      have h62 := pow_62 (i := b) (by omega)
      have hp := pow_pos2 b
      have e := toNat_min (b := b) (by omega)
      rw [e, Int.one_mul, wI (n := 2 ^ b) (by omega) (by omega)]
      exact ⟨hl.symm, _, rfl⟩
    · exact ⟨rfl, _, rfl⟩
  · rw [if_neg h]
    have : (downErr t bits != 0) = true := by simp [h]
    simp only [this, cond_true]
    exact ⟨trivial, _, rfl⟩
/-- What a time comes to that is doubled, up to a bound. -/
def twice (d most : Int) (k : Nat) : Int := if most < d * 2 ^ k then most else d * 2 ^ k
theorem double_loop {times most : Int} (hm0 : 0 ≤ most) (hm : most ≤ 9223372036854775807) (n : Nat) : ∀ (k i m : Nat) (e : Int), times = i + k → 64 - i < m → 2 ^ i ≤ e → e ≤ 9223372036854775807 →
    f59_12 n m e times most i = some (twice e most k, 0) := by
  intro k
  induction k with
  | zero =>
    intro i m e hk hf h0 h1
    obtain ⟨m, rfl⟩ : ∃ q, m = q + 1 := ⟨m - 1, by omega⟩
    rw [f59_12_eq, decide_eq_false (by omega)]
    unfold twice
    simp only [cond_false, Int.pow_zero, Int.mul_one]
    by_cases h : e > most
    · rw [decide_eq_true h, if_pos h]; rfl
    · rw [decide_eq_false h, if_neg h]; rfl
  | succ k ih =>
    intro i m e hk hf h0 h1
    obtain ⟨m, rfl⟩ : ∃ q, m = q + 1 := ⟨m - 1, by omega⟩
    have hi : i ≤ 62 := by
      by_cases h : i ≤ 62
      · exact h
      · exfalso
        have := pow_le2 (show 63 ≤ i by omega)
        have e63 : (2 : Int) ^ 63 = 9223372036854775808 := by decide
        omega
    have hp := pow_pos2 i
    have hk2 := pow_pos2 k
    rw [f59_12_eq, decide_eq_true (by omega), decide_eq_true (by omega)]
    simp only [cond_true]
    rw [IntWalk.i64_quo most 2 ⟨hm0, hm, by decide⟩]
    have e2 : e * 2 ^ (k + 1) = e * 2 * 2 ^ k := by rw [pow_succ2, Int.mul_comm (2 ^ k) 2, Int.mul_assoc]
    by_cases h : e > most / 2
    · rw [decide_eq_true h, decide_eq_true (by omega)]
      unfold twice
      have : e * 2 * 1 ≤ e * 2 * 2 ^ k := Int.mul_le_mul_of_nonneg_left (by omega) (by omega)
      rw [if_pos (by rw [e2]; omega)]
      rfl
    · rw [decide_eq_false h]
      simp only [cond_false]
      rw [wI (by omega) (by omega), wI (n := (i : Int) + 1) (by omega) (by omega)]
      have := ih (i + 1) m (e * 2) (by omega) (by omega) (by rw [pow_succ2]; omega) (by omega)
      rw [show ((i + 1 : Nat) : Int) = (i : Int) + 1 by omega] at this
      rw [this]
      unfold twice
      rw [e2]
theorem double_zero {times most : Int} (hm0 : 0 ≤ most) (hm : most ≤ 9223372036854775807) (n : Nat) : ∀ (k i m : Nat), 64 - i ≤ k → i ≤ 64 → k < m → f59_12 n m 0 times most i = some (0, 0) := by
  intro k
  induction k with
  | zero =>
    intro i m hk hi hf
    obtain ⟨m, rfl⟩ : ∃ q, m = q + 1 := ⟨m - 1, by omega⟩
    have : i = 64 := by omega
    subst this
    rw [f59_12_eq, decide_eq_false (show ¬ ((64 : Nat) : Int) < 64 by decide), decide_eq_false (show ¬ (0 : Int) > most by omega)]
    cases decide (((64 : Nat) : Int) < times) <;> rfl
  | succ k ih =>
    intro i m hk hi hf
    obtain ⟨m, rfl⟩ : ∃ q, m = q + 1 := ⟨m - 1, by omega⟩
    rw [f59_12_eq, IntWalk.i64_quo most 2 ⟨hm0, hm, by decide⟩, decide_eq_false (show ¬ (0 : Int) > most by omega), decide_eq_false (show ¬ (0 : Int) > most / 2 by omega)]
    by_cases h : (i : Int) < 64
    · rw [decide_eq_true h]
      simp only [cond_true, cond_false, Int.zero_mul]
      rw [show IntKind.i64.wrap 0 = 0 from by decide, wI (n := (i : Int) + 1) (by omega) (by omega)]
      have := ih (i + 1) m (by omega) (by omega) (by omega)
      rw [show ((i + 1 : Nat) : Int) = (i : Int) + 1 by omega] at this
      rw [this]
      cases decide ((i : Int) < times) <;> rfl
    · rw [decide_eq_false h]
      cases decide ((i : Int) < times) <;> rfl
theorem double_alike {n : Nat} (hn : 66 ≤ n) {d times most : Int} (hd : i64 d) (hm : i64 most) : f58 n d times most = f59 n d times most ∧ ∃ r, f58 n d times most = some r := by
  rw [f58_eq, f59_eq]
  by_cases h1 : d < 0
  · rw [decide_eq_true h1]; exact ⟨rfl, _, rfl⟩
  · rw [decide_eq_false h1]
    by_cases h2 : most < 0
    · rw [decide_eq_true h2]; exact ⟨rfl, _, rfl⟩
    · rw [decide_eq_false h2]
      by_cases h3 : times < 0
      · rw [decide_eq_true h3]; exact ⟨rfl, _, rfl⟩
      · rw [decide_eq_false h3]
        simp only [cond_false]
        obtain ⟨k, rfl⟩ := Int.eq_ofNat_of_zero_le (show 0 ≤ times by omega)
        by_cases h4 : d = 0
        · subst h4
          have := double_zero (times := k) (by omega) hm.2 n 64 0 n (by omega) (by omega) (by omega)
          rw [show ((0 : Nat) : Int) = 0 from rfl] at this
          rw [this]
          exact ⟨rfl, _, rfl⟩
        · have hl := double_loop (times := k) (most := most) (by omega) hm.2 n k 0 n d (by omega) (by omega) (by rw [Int.pow_zero]; omega) hd.2
          rw [show ((0 : Nat) : Int) = 0 from rfl] at hl
          rw [hl, beq_false_of_ne h4]
          simp only [cond_false]
          by_cases h5 : (k : Int) ≥ 63
          · rw [decide_eq_true h5]
            have hp : (9223372036854775808 : Int) ≤ 2 ^ k := pow_le2 (show 63 ≤ k by omega)
            have : 1 * 2 ^ k ≤ d * 2 ^ k := Int.mul_le_mul_of_nonneg_right (by omega) (by omega)
            rw [show twice d most k = most from if_pos (by omega)]
            exact ⟨rfl, _, rfl⟩
          · rw [decide_eq_false h5]
            simp only [cond_false]
            have e := toNat_min (b := k) (by omega)
            have hp := pow_pos2 k
            rw [e, Int.fdiv_eq_ediv_of_nonneg _ (Int.le_of_lt hp)]
            have hq := Int.ediv_lt_iff_lt_mul (a := 9223372036854775807) (b := d) hp
            by_cases h6 : d > 9223372036854775807 / 2 ^ k
            · rw [decide_eq_true h6]
              have := hq.1 h6
              rw [show twice d most k = most from if_pos (by omega)]
              exact ⟨rfl, _, rfl⟩
            · rw [decide_eq_false h6]
              have : ¬ 9223372036854775807 < d * 2 ^ k := fun h => h6 (hq.2 h)
              have : 0 ≤ d * 2 ^ k := Int.mul_nonneg (by omega) (by omega)
              simp only [cond_false]
              rw [wI (by omega) (by omega)]
              exact ⟨rfl, _, rfl⟩
theorem ticks_rounds {n : Nat} (hn : 66 ≤ n) {t bits most : Int} (ht : i64 t) (hm : i64 most) : f11 (n + 4) t bits most = some true := by
  obtain ⟨h1, r, hr⟩ := up_alike (show 63 ≤ n + 4 by omega) t bits
  obtain ⟨h2, q, hq⟩ := double_alike (show 66 ≤ n + 4 by omega) (times := bits) ht hm
  rw [f11_eq]
  simp only [down_go, down_ref (show 63 ≤ n + 4 by omega), ← h1, ← h2, hr, hq, awake_tick, Option.bind_some, cond_true, beq_self_eq_true]
end Go.Proofs.Ytnlnfmakcnadlaa
