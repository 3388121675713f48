/- The time of a part of all: what the program's and the document's functions tell is one and the same, and it never falls as the part grows. -/
import Derived.Test.YtnlnfmakcnadlaaLBucket
import Derived.Test.YtnlnfmakcnadlaaLWait
import Derived.Test.YtnlnfmakcnadlaaGc
namespace Go.Proofs.Ytnlnfmakcnadlaa
open Go.Rf
/-- A product of two numbers below 2^63, bit by bit. -/
theorem prod_loop (n : Nat) {b P : Nat} (hb : b < 9223372036854775808) (hP : P < 85070591730234615865843651857942052864) : ∀ (k m V r : Nat), k < m → k ≤ 64 → r < 2 ^ k → V * 2 ^ k + r * b = P →
    f79_6 n m ((r * 2 ^ (64 - k) : Nat) : Int) b ((V : Int) / 18446744073709551616) ((V : Int) % 18446744073709551616) ((64 - k : Nat) : Int) = some ((P : Int) / 18446744073709551616, (P : Int) % 18446744073709551616) := by
  intro k
  induction k with
  | zero =>
    intro m V r hm _ hr he
    obtain ⟨m, rfl⟩ : ∃ q, m = q + 1 := ⟨m - 1, by omega⟩
    have hr0 : r = 0 := by rw [Nat.pow_zero] at hr; omega
    subst hr0
    have hv : V = P := by rw [Nat.pow_zero] at he; omega
    subst hv
    rw [f79_6_eq]
    rfl
  | succ k ih =>
    intro m V r hm hk hr he
    obtain ⟨m, rfl⟩ : ∃ q, m = q + 1 := ⟨m - 1, by omega⟩
    have hXE : 2 ^ k * 2 ^ (63 - k) = 9223372036854775808 := by
      rw [← Nat.pow_add, show k + (63 - k) = 63 by omega]
    have hE2 : 2 ^ (64 - k) = 2 ^ (63 - k) * 2 := by
      rw [show 64 - k = 63 - k + 1 by omega, Nat.pow_succ]
    have hXp : 0 < 2 ^ k := Nat.pow_pos (by decide)
    rw [Nat.pow_succ] at hr he
    rw [show 64 - (k + 1) = 63 - k by omega]
    have ihm := ih m
    rw [hE2] at ihm
    generalize 2 ^ (63 - k) = E at *
    generalize 2 ^ k = X at *
    have hEp : 0 < E := by
      rcases Nat.eq_zero_or_pos E with h | h
      · subst h; simp at hXE
      · exact h
    have step : ∀ (V' r' : Nat) (A' h l j : Int), r' < X → V' * X + r' * b = P → A' = ((r' * (E * 2) : Nat) : Int) → h = (V' : Int) / 18446744073709551616 → l = (V' : Int) % 18446744073709551616 → j = ((64 - k : Nat) : Int) →
        f79_6 n m A' b h l j = some ((P : Int) / 18446744073709551616, (P : Int) % 18446744073709551616) := by
      intro V' r' A' h l j h1 h2 e1 e2 e3 e4
      rw [e1, e2, e3, e4]
      exact ihm V' r' (by omega) (by omega) h1 h2
    have hA : r * E < 18446744073709551616 := by
      have := Nat.mul_lt_mul_of_pos_right hr hEp
      rw [Nat.mul_assoc, Nat.mul_comm 2 E, ← Nat.mul_assoc, hXE] at this
      omega
    have hVP : V * X ≤ P := by
      have : V * X ≤ V * (X * 2) := Nat.mul_le_mul_left _ (by omega)
      omega
    have hVX2 : V * (X * 2) = 2 * V * X := by rw [Nat.mul_comm X 2, ← Nat.mul_assoc, Nat.mul_comm V 2]
    have hj : IntKind.i64.wrap ((((63 - k : Nat) : Int)) + 1) = ((64 - k : Nat) : Int) := by
      rw [wI (by omega) (by omega)]; omega
    rw [f79_6_eq, decide_eq_true (show ((63 - k : Nat) : Int) < 64 by omega), hj]
    simp only [cond_true, wU_mod]
    by_cases hbit : X ≤ r
    · -- the bit is 1
      have hA1 : 9223372036854775808 ≤ r * E := by
        have := Nat.mul_le_mul_right E hbit
        omega
      have e' : (r - X) * (E * 2) = 2 * (r * E) - 18446744073709551616 := by
        rw [← Nat.mul_assoc, Nat.sub_mul, hXE]; omega
      have eP : (2 * V + b) * X + (r - X) * b = P := by
        have h1 : r * b = (r - X) * b + X * b := by rw [← Nat.add_mul, Nat.sub_add_cancel hbit]
        rw [Nat.add_mul, Nat.mul_comm b X]
        omega
      have hV2 : 2 * V + b ≤ P := by
        have : (2 * V + b) * 1 ≤ (2 * V + b) * X := Nat.mul_le_mul_left _ hXp
        omega
      rw [decide_eq_true (show ((r * E : Nat) : Int) ≥ 9223372036854775808 by omega)]
      have st := step (2 * V + b) (r - X)
      rw [e'] at st
      generalize r * E = A at *
      by_cases hc : (V : Int) % 18446744073709551616 ≥ 9223372036854775808
      · rw [decide_eq_true hc]
        by_cases ho : (2 * ((V : Int) % 18446744073709551616) % 18446744073709551616 + b) % 18446744073709551616 < 2 * ((V : Int) % 18446744073709551616) % 18446744073709551616
        · rw [decide_eq_true ho]
          exact st _ _ _ _ (by omega) eP (by omega) (by omega) (by omega) rfl
        · rw [decide_eq_false ho]
          exact st _ _ _ _ (by omega) eP (by omega) (by omega) (by omega) rfl
      · rw [decide_eq_false hc]
        by_cases ho : (2 * ((V : Int) % 18446744073709551616) % 18446744073709551616 + b) % 18446744073709551616 < 2 * ((V : Int) % 18446744073709551616) % 18446744073709551616
        · rw [decide_eq_true ho]
          exact st _ _ _ _ (by omega) eP (by omega) (by omega) (by omega) rfl
        · rw [decide_eq_false ho]
          exact st _ _ _ _ (by omega) eP (by omega) (by omega) (by omega) rfl
    · have hA1 : r * E < 9223372036854775808 := by
        have := Nat.mul_lt_mul_of_pos_right (show r < X by omega) hEp
        omega
      have e' : r * (E * 2) = 2 * (r * E) := by rw [← Nat.mul_assoc, Nat.mul_comm]
      have eP : (2 * V) * X + r * b = P := by omega
      have hV2 : 2 * V ≤ P := by
        have : (2 * V) * 1 ≤ (2 * V) * X := Nat.mul_le_mul_left _ hXp
        omega
      rw [decide_eq_false (show ¬ ((r * E : Nat) : Int) ≥ 9223372036854775808 by omega)]
      have st := step (2 * V) r
      rw [e'] at st
      generalize r * E = A at *
      by_cases hc : (V : Int) % 18446744073709551616 ≥ 9223372036854775808
      · rw [decide_eq_true hc]
        exact st _ _ _ _ (by omega) eP (by omega) (by omega) (by omega) rfl
      · rw [decide_eq_false hc]
        exact st _ _ _ _ (by omega) eP (by omega) (by omega) (by omega) rfl
/-- Two products are told alike. -/
theorem prod_ref {n : Nat} (hn : 65 ≤ n) {a b : Nat} (ha : a < 9223372036854775808) (hb : b < 9223372036854775808) :
    f79 n a b = some (((a * b : Nat) : Int) / 18446744073709551616, ((a * b : Nat) : Int) % 18446744073709551616) := by
  have hP : a * b < 85070591730234615865843651857942052864 := by
    have h1 : a * b ≤ 9223372036854775807 * 9223372036854775807 := Nat.mul_le_mul (by omega) (by omega)
    omega
  have := prod_loop n hb hP 64 n 0 a (by omega) (by omega) (by omega) (by omega)
  rw [f79_eq]
  simpa using this
theorem prod_go (n : Nat) {a b : Nat} (ha : a < 9223372036854775808) (hb : b < 9223372036854775808) :
    f78 n a b = some (((a * b : Nat) : Int) / 18446744073709551616, ((a * b : Nat) : Int) % 18446744073709551616) := by
  rw [mul_is n (x := a) (y := b) ⟨by omega, by omega⟩ ⟨by omega, by omega⟩, Int.natCast_mul]
/-- All of them, if there are not too many. -/
def total : List Int → Nat → Option Nat
  | [], a => some a
  | x :: l, a => if x < 0 then none else if x > 4611686018427387904 - (a : Int) then none else total l (a + x.toNat)
/-- The first bucket up to which there are as many. -/
def scan (W of : Nat) : List Int → Nat → Nat → Nat
  | [], i, _ => i
  | x :: l, i, s => if W ≤ (s + x.toNat) * of then i else scan W of l (i + 1) (s + x.toNat)
theorem total_bound : ∀ {l : List Int} {a t : Nat}, total l a = some t → a ≤ 4611686018427387904 → t ≤ 4611686018427387904 ∧ a ≤ t ∧ ∀ x ∈ l, 0 ≤ x
  | [], a, t, h, ha => by simp only [total, Option.some.injEq] at h; subst h; exact ⟨ha, Nat.le_refl _, fun x hx => by cases hx⟩
  | x :: l, a, t, h, ha => by
    simp only [total] at h
    split at h
    · cases h
    · split at h
      · cases h
      · obtain ⟨h1, h2, h3⟩ := total_bound h (by omega)
        refine ⟨h1, by omega, fun y hy => ?_⟩
        rcases List.mem_cons.1 hy with rfl | hy
        · omega
        · exact h3 y hy
section
variable {n : Nat} {b : List Int}
theorem all_go (hl : b.length = 64) (hw : ∀ x ∈ b, i64 x) {part of : Int} (hp : u64 part) : ∀ (k i m a : Nat), i + k = 64 → k < m → a ≤ 4611686018427387904 →
    f43_10 n m part of a b i b = match total (b.drop i) a with
      | none => some (0, 1)
      | some t => (f78 n t part).bind fun r1 => f43_28 n (m - k - 1) of t r1.fst r1.snd 0 b 0 := by
  intro k
  induction k with
  | zero =>
    intro i m a hi hm ha
    obtain ⟨m, rfl⟩ : ∃ q, m = q + 1 := ⟨m - 1, by omega⟩
    rw [f43_10_eq, decide_eq_false (show ¬ (i : Int) < 64 by omega), List.drop_of_length_le (by omega), wU (n := part) hp.1 hp.2]
    rfl
  | succ k ih =>
    intro i m a hi hm ha
    obtain ⟨m, rfl⟩ : ∃ q, m = q + 1 := ⟨m - 1, by omega⟩
    have hi' : i < b.length := by omega
    have hx : i64 (b.getD i 0) := hw _ (getD_mem hi')
    rw [f43_10_eq, getD_drop (d := 0) hi', decide_eq_true (show (i : Int) < 64 by omega), decide_eq_true (show (0 : Int) ≤ (i : Int) ∧ (i : Int) < ((64 : Nat) : Int) by omega)]
    simp only [cond_true, Int.toNat_natCast, total]
    by_cases h1 : b.getD i 0 < 0
    · rw [decide_eq_true h1, if_pos h1]; rfl
    · rw [decide_eq_false h1, if_neg h1]
      simp only [wU (n := b.getD i 0) (by omega) (by omega), wU (n := 4611686018427387904 - (a : Int)) (by omega) (by omega), cond_false]
      by_cases h2 : b.getD i 0 > 4611686018427387904 - (a : Int)
      · rw [decide_eq_true h2, if_pos h2]; rfl
      · rw [decide_eq_false h2, if_neg h2, wU (n := (a : Int) + b.getD i 0) (by omega) (by omega), wI (n := (i : Int) + 1) (by omega) (by omega)]
        simp only [cond_false]
        have := ih (i + 1) m (a + (b.getD i 0).toNat) (by omega) (by omega) (by omega)
        rw [show ((i + 1 : Nat) : Int) = (i : Int) + 1 by omega, show ((a + (b.getD i 0).toNat : Nat) : Int) = (a : Int) + b.getD i 0 by omega] at this
        rw [this, show m + 1 - (k + 1) - 1 = m - k - 1 by omega]
theorem all_ref (hl : b.length = 64) (hw : ∀ x ∈ b, i64 x) {part of : Int} : ∀ (k i m a : Nat), i + k = 64 → k < m → a ≤ 4611686018427387904 →
    f44_10 n m part of a b i b = match total (b.drop i) a with
      | none => some (0, false)
      | some t => bif (t : Int) == 0 then some (0, true) else (f79 n t (IntKind.u64.wrap part)).bind fun r1 => f44_32 n (m - k - 1) of r1.fst r1.snd 0 0 b 0 := by
  intro k
  induction k with
  | zero =>
    intro i m a hi hm ha
    obtain ⟨m, rfl⟩ : ∃ q, m = q + 1 := ⟨m - 1, by omega⟩
    rw [f44_10_eq, decide_eq_false (show ¬ (i : Int) < 64 by omega), List.drop_of_length_le (by omega), wU (n := (a : Int)) (by omega) (by omega)]
    rfl
  | succ k ih =>
    intro i m a hi hm ha
    obtain ⟨m, rfl⟩ : ∃ q, m = q + 1 := ⟨m - 1, by omega⟩
    have hi' : i < b.length := by omega
    have hx : i64 (b.getD i 0) := hw _ (getD_mem hi')
    rw [f44_10_eq, getD_drop (d := 0) hi', decide_eq_true (show (i : Int) < 64 by omega), decide_eq_true (show (0 : Int) ≤ (i : Int) ∧ (i : Int) < ((64 : Nat) : Int) by omega)]
    simp only [cond_true, Int.toNat_natCast, total]
    by_cases h1 : b.getD i 0 < 0
    · rw [decide_eq_true h1, if_pos h1]; rfl
    · rw [decide_eq_false h1, if_neg h1]
      simp only [wI (n := 4611686018427387904 - (a : Int)) (by omega) (by omega), cond_false]
      by_cases h2 : b.getD i 0 > 4611686018427387904 - (a : Int)
      · rw [decide_eq_true h2, if_pos h2]; rfl
      · rw [decide_eq_false h2, if_neg h2, wI (n := (a : Int) + b.getD i 0) (by omega) (by omega), wI (n := (i : Int) + 1) (by omega) (by omega)]
        simp only [cond_false]
        have := ih (i + 1) m (a + (b.getD i 0).toNat) (by omega) (by omega) (by omega)
        rw [show ((i + 1 : Nat) : Int) = (i : Int) + 1 by omega, show ((a + (b.getD i 0).toNat : Nat) : Int) = (a : Int) + b.getD i 0 by omega] at this
        rw [this, show m + 1 - (k + 1) - 1 = m - k - 1 by omega]
/-- Two numbers of two words are held against one another. -/
theorem words_le (P W : Nat) : ((P : Int) / 18446744073709551616 > (W : Int) / 18446744073709551616 ∨ ((P : Int) / 18446744073709551616 = (W : Int) / 18446744073709551616 ∧ (P : Int) % 18446744073709551616 ≥ (W : Int) % 18446744073709551616)) ↔ W ≤ P := by omega
theorem edge_snd (i : Nat) : (edgeF i).2 = 2 ^ i - 1 := by
  unfold edgeF
  split
  · rename_i h; subst h; rfl
  · rfl
theorem scan_go (hl : b.length = 64) (hp : ∀ x ∈ b, 0 ≤ x) {of W t : Nat} (ho : of < 9223372036854775808) (ht0 : 0 < t) (ht : t ≤ 4611686018427387904) : ∀ (k i m s : Nat), i + k = 64 → k < m → total (b.drop i) s = some t → W ≤ t * of → (k = 0 → s * of < W → False) → s ≤ 4611686018427387904 → (k = 0 → W ≤ s * of → False) →
    f43_28 n m of t ((W : Int) / 18446744073709551616) ((W : Int) % 18446744073709551616) s b i = some (2 ^ scan W of (b.drop i) i s - 1, 0) ∧ scan W of (b.drop i) i s ≤ 63 := by
  intro k
  induction k with
  | zero =>
    intro i m s hi hm hs hW h0 _ h1
    exfalso
    rcases Nat.lt_or_ge (s * of) W with h | h
    · exact h0 rfl h
    · exact h1 rfl h
  | succ k ih =>
    intro i m s hi hm hs hW _ hsb _
    obtain ⟨m, rfl⟩ : ∃ q, m = q + 1 := ⟨m - 1, by omega⟩
    have hi' : i < b.length := by omega
    have hx := hp _ (getD_mem hi')
    rw [getD_drop (d := 0) hi'] at hs ⊢
    simp only [total] at hs
    split at hs
    · cases hs
    · split at hs
      · cases hs
      · rename_i h1 h2
        have hb := total_bound hs (by omega)
        rw [f43_28_eq, decide_eq_true (show (i : Int) < 64 by omega), decide_eq_true (show (0 : Int) ≤ (i : Int) ∧ (i : Int) < ((64 : Nat) : Int) by omega)]
        simp only [cond_true, Int.toNat_natCast, scan]
        generalize b.getD i 0 = x at *
        obtain ⟨X, rfl⟩ := Int.eq_ofNat_of_zero_le hx
        simp only [Int.toNat_natCast] at *
        rw [wU (n := (X : Int)) (by omega) (by omega), ← Int.natCast_add, wU (n := ((s + X : Nat) : Int)) (by omega) (by omega), wU (n := (of : Int)) (by omega) (by omega), prod_go n (a := s + X) (b := of) (by omega) ho]
        simp only [Option.bind_some]
        rw [decide_eq_true (show (t : Int) > 0 by omega), wI (n := (i : Int) + 1) (by omega) (by omega), edge_go n (b := i) (by omega)]
        simp only [cond_true, Option.bind_some, edge_snd]
        have hle := words_le ((s + X) * of) W
        by_cases hc : W ≤ (s + X) * of
        · rw [if_pos hc]
          rcases hle.2 hc with h3 | ⟨h3, h4⟩
          · rw [decide_eq_true h3]; exact ⟨rfl, by omega⟩
          · rw [h3, decide_eq_false (show ¬ (W : Int) / 18446744073709551616 > (W : Int) / 18446744073709551616 by omega), beq_self_eq_true, decide_eq_true h4]; exact ⟨rfl, by omega⟩
        · rw [if_neg hc]
          have hn : ¬ (((((s + X) * of : Nat) : Int) / 18446744073709551616 > (W : Int) / 18446744073709551616) ∨ ((((s + X) * of : Nat) : Int) / 18446744073709551616 = (W : Int) / 18446744073709551616 ∧ (((s + X) * of : Nat) : Int) % 18446744073709551616 ≥ (W : Int) % 18446744073709551616)) := fun h => hc (hle.1 h)
          have hk : 0 < k := by
            rcases Nat.eq_zero_or_pos k with h | h
            · subst h
              rw [List.drop_of_length_le (by omega)] at hs
              simp only [total, Option.some.injEq] at hs
              rw [hs] at hc
              exact absurd hW hc
            · exact h
          have := ih (i + 1) m (s + X) (by omega) (by omega) hs hW (fun h => by omega) (by omega) (fun h => by omega)
          rw [show ((i + 1 : Nat) : Int) = (i : Int) + 1 by omega] at this
          rw [decide_eq_false (fun h => hn (.inl h))]
          simp only [cond_false]
          by_cases h5 : ((((s + X) * of : Nat) : Int) / 18446744073709551616) = (W : Int) / 18446744073709551616
          · rw [h5, beq_self_eq_true, decide_eq_false (fun h => hn (.inr ⟨h5, h⟩))]
            exact this
          · rw [beq_false_of_ne h5]
            exact this
theorem scan_ref (hn : 65 ≤ n) (hl : b.length = 64) (hp : ∀ x ∈ b, 0 ≤ x) {of W t : Nat} (ho : of < 9223372036854775808) (ht : t ≤ 4611686018427387904) : ∀ (k i m s : Nat), i + k = 64 → k < m → total (b.drop i) s = some t → W ≤ t * of → s ≤ 4611686018427387904 → 0 < k →
    f44_32 n m of ((W : Int) / 18446744073709551616) ((W : Int) % 18446744073709551616) s ((2 ^ i - 1 : Int)) b i = some (2 ^ scan W of (b.drop i) i s - 1, true) := by
  intro k
  induction k with
  | zero => intro i m s _ _ _ _ _ h; omega
  | succ k ih =>
    intro i m s hi hm hs hW hsb _
    obtain ⟨m, rfl⟩ : ∃ q, m = q + 1 := ⟨m - 1, by omega⟩
    have hi' : i < b.length := by omega
    have hx := hp _ (getD_mem hi')
    rw [getD_drop (d := 0) hi'] at hs ⊢
    simp only [total] at hs
    split at hs
    · cases hs
    · split at hs
      · cases hs
      · rename_i h1 h2
        have hb := total_bound hs (by omega)
        rw [f44_32_eq, decide_eq_true (show (i : Int) < 64 by omega), decide_eq_true (show (0 : Int) ≤ (i : Int) ∧ (i : Int) < ((64 : Nat) : Int) by omega)]
        simp only [cond_true, Int.toNat_natCast, scan]
        generalize b.getD i 0 = x at *
        obtain ⟨X, rfl⟩ := Int.eq_ofNat_of_zero_le hx
        simp only [Int.toNat_natCast] at *
        rw [← Int.natCast_add, wI (n := ((s + X : Nat) : Int)) (by omega) (by omega), wU (n := ((s + X : Nat) : Int)) (by omega) (by omega), wU (n := (of : Int)) (by omega) (by omega), prod_ref hn (a := s + X) (b := of) (by omega) ho]
        simp only [Option.bind_some]
        rw [wI (n := (i : Int) + 1) (by omega) (by omega)]
        have hle := words_le ((s + X) * of) W
        by_cases hc : W ≤ (s + X) * of
        · rw [if_pos hc]
          rcases hle.2 hc with h3 | ⟨h3, h4⟩
          · rw [decide_eq_true h3]; rfl
          · rw [h3, decide_eq_false (show ¬ (W : Int) / 18446744073709551616 > (W : Int) / 18446744073709551616 by omega), beq_self_eq_true, decide_eq_true h4]; rfl
        · rw [if_neg hc]
          have hn' : ¬ (((((s + X) * of : Nat) : Int) / 18446744073709551616 > (W : Int) / 18446744073709551616) ∨ ((((s + X) * of : Nat) : Int) / 18446744073709551616 = (W : Int) / 18446744073709551616 ∧ (((s + X) * of : Nat) : Int) % 18446744073709551616 ≥ (W : Int) % 18446744073709551616)) := fun h => hc (hle.1 h)
          have hk : 0 < k := by
            rcases Nat.eq_zero_or_pos k with h | h
            · subst h
              rw [List.drop_of_length_le (by omega)] at hs
              simp only [total, Option.some.injEq] at hs
              rw [hs] at hc
              exact absurd hW hc
            · exact h
          have := ih (i + 1) m (s + X) (by omega) (by omega) hs hW (by omega) hk
          have hp2 := pow_succ2 i
          have h62 := pow_62 (i := i) (by omega)
          have hpp := pow_pos2 i
          rw [show ((i + 1 : Nat) : Int) = (i : Int) + 1 by omega, hp2] at this
          rw [decide_eq_false (fun h => hn' (.inl h)), decide_eq_true (show (i : Int) < 63 by omega), wI (n := 2 * ((2 : Int) ^ i - 1)) (by omega) (by omega), wI (n := 2 * ((2 : Int) ^ i - 1) + 1) (by omega) (by omega), show 2 * ((2 : Int) ^ i - 1) + 1 = 2 ^ i * 2 - 1 by omega]
          simp only [cond_false, cond_true]
          by_cases h5 : ((((s + X) * of : Nat) : Int) / 18446744073709551616) = (W : Int) / 18446744073709551616
          · rw [h5, beq_self_eq_true, decide_eq_false (fun h => hn' (.inr ⟨h5, h⟩))]
            exact this
          · rw [beq_false_of_ne h5]
            exact this
theorem scan_mono {W W' of : Nat} (h : W ≤ W') : ∀ (l : List Int) (i s : Nat), scan W of l i s ≤ scan W' of l i s
  | [], _, _ => Nat.le_refl _
  | x :: l, i, s => by
    have low : ∀ (l : List Int) (i s : Nat), i ≤ scan W' of l i s := by
      intro l
      induction l with
      | nil => intro i s; exact Nat.le_refl _
      | cons y l ih =>
        intro i s
        simp only [scan]
        split
        · exact Nat.le_refl _
        · have := ih (i + 1) (s + y.toNat); omega
    simp only [scan]
    by_cases h1 : W ≤ (s + x.toNat) * of
    · rw [if_pos h1]
      split
      · exact Nat.le_refl _
      · have := low l (i + 1) (s + x.toNat); omega
    · rw [if_neg h1, if_neg (show ¬ W' ≤ (s + x.toNat) * of by omega)]
      exact scan_mono h l (i + 1) (s + x.toNat)
/-- What a quantile is. -/
def quant (b : List Int) (part of : Nat) : Option Int := (total b 0).map fun t => if t = 0 then 0 else 2 ^ scan (t * part) of b 0 0 - 1
theorem quant_go (hn : 130 ≤ n) (hl : b.length = 64) (hw : ∀ x ∈ b, i64 x) {part of : Nat} (ho : 1 ≤ of) (ho2 : of < 9223372036854775808) (hp : part ≤ of) :
    f43 n b part of = some (match quant b part of with | none => (0, 1) | some r => (r, 0)) ∧ f44 n b part of = some (match quant b part of with | none => (0, false) | some r => (r, true)) := by
  have g := all_go (n := n) hl hw (part := part) (of := of) ⟨by omega, by omega⟩ 64 0 n 0 (by omega) (by omega) (by omega)
  have r := all_ref (n := n) hl hw (part := part) (of := of) 64 0 n 0 (by omega) (by omega) (by omega)
  rw [List.drop_zero, show ((0 : Nat) : Int) = 0 from rfl] at g r
  rw [f43_eq, f44_eq, decide_eq_false (show ¬ (of : Int) < 1 by omega), decide_eq_false (show ¬ (part : Int) < 0 by omega), decide_eq_false (show ¬ (part : Int) > (of : Int) by omega)]
  simp only [cond_false]
  rw [g, r]
  unfold quant
  cases ht : total b 0 with
  | none => exact ⟨rfl, rfl⟩
  | some t =>
    obtain ⟨h1, _, h3⟩ := total_bound ht (by omega)
    simp only [Option.map_some]
    rw [prod_go n (a := t) (b := part) (by omega) (by omega), wU (n := (part : Int)) (by omega) (by omega), prod_ref (by omega) (a := t) (b := part) (by omega) (by omega)]
    simp only [Option.bind_some]
    by_cases h0 : t = 0
    · subst h0
      rw [if_pos rfl]
      refine ⟨?_, rfl⟩
      -- nothing at all: the walk ends without any
      have none0 : ∀ (k i m : Nat), i + k = 64 → k < m → f43_28 n m of 0 0 0 0 b i = some (0, 0) := by
        have hz : ∀ x ∈ b, x = 0 := by
          have key : ∀ {l : List Int} {a : Nat}, total l a = some a → ∀ x ∈ l, x = 0 := by
            intro l
            induction l with
            | nil => intro a _ x hx; cases hx
            | cons y l ih =>
              intro a h x hx
              simp only [total] at h
              split at h
              · cases h
              · split at h
                · cases h
                · have hb := total_bound h (by rename_i h1 h2; omega)
                  have hy0 : y.toNat = 0 := by omega
                  rw [hy0, Nat.add_zero] at h
                  rcases List.mem_cons.1 hx with rfl | hx
                  · omega
                  · exact ih h x hx
          exact key ht
        intro k
        induction k with
        | zero =>
          intro i m hi hm
          obtain ⟨m, rfl⟩ : ∃ q, m = q + 1 := ⟨m - 1, by omega⟩
          rw [f43_28_eq, decide_eq_false (show ¬ (i : Int) < 64 by omega)]
          rfl
        | succ k ih =>
          intro i m hi hm
          obtain ⟨m, rfl⟩ : ∃ q, m = q + 1 := ⟨m - 1, by omega⟩
          have hx := hz _ (getD_mem (show i < b.length by omega))
          rw [f43_28_eq, decide_eq_true (show (i : Int) < 64 by omega), decide_eq_true (show (0 : Int) ≤ (i : Int) ∧ (i : Int) < ((64 : Nat) : Int) by omega)]
          simp only [cond_true, Int.toNat_natCast, hx]
          have e0 : IntKind.u64.wrap (0 + IntKind.u64.wrap 0) = ((0 : Nat) : Int) := by decide
          rw [e0, wU (n := (of : Int)) (by omega) (by omega), prod_go n (a := 0) (b := of) (by omega) ho2, wI (n := (i : Int) + 1) (by omega) (by omega)]
          have := ih (i + 1) m (by omega) (by omega)
          rw [show ((i + 1 : Nat) : Int) = (i : Int) + 1 by omega] at this
          simp only [Option.bind_some]
          rw [decide_eq_false (show ¬ (0 : Int) > 0 by omega)]
          exact this
      have := none0 64 0 (n - 64 - 1) (by omega) (by omega)
      simpa using this
    · rw [if_neg h0]
      have hW : t * part ≤ t * of := Nat.mul_le_mul_left _ hp
      have s1 := scan_go (n := n) hl h3 (of := of) (W := t * part) ho2 (by omega) h1 64 0 (n - 64 - 1) 0 (by omega) (by omega) (by rw [List.drop_zero]; exact ht) hW (fun h => by omega) (by omega) (fun h => by omega)
      have s2 := scan_ref (n := n) (by omega) hl h3 (of := of) (W := t * part) ho2 h1 64 0 (n - 64 - 1) 0 (by omega) (by omega) (by rw [List.drop_zero]; exact ht) hW (by omega) (by omega)
      rw [List.drop_zero] at s1 s2
      rw [beq_false_of_ne (show (t : Int) ≠ 0 by omega)]
      exact ⟨s1.1, s2⟩
end
theorem awake_tally (n : Nat) : f20 (n + 8) = some true := by kernel_rfl
theorem quants {n : Nat} (hn : 130 ≤ n) {b : List Int} (hl : b.length = 64) (hw : ∀ x ∈ b, i64 x) {part of : Int} (ho : i64 of) : f8 n b part of = some true := by
  have haw : f20 n = some true := by
    obtain ⟨k, rfl⟩ : ∃ k, n = k + 8 := ⟨n - 8, by omega⟩
    exact awake_tally k
  by_cases hc : 1 ≤ of ∧ 0 ≤ part ∧ part ≤ of
  · obtain ⟨h1, h2, h3⟩ := hc
    obtain ⟨o, rfl⟩ := Int.eq_ofNat_of_zero_le (show 0 ≤ of by omega)
    obtain ⟨p, rfl⟩ := Int.eq_ofNat_of_zero_le h2
    have ho2 := ho.2
    obtain ⟨a1, a2⟩ := quant_go hn hl hw (part := p) (of := o) (by omega) (by omega) (by omega)
    obtain ⟨b1, _⟩ := quant_go hn hl hw (part := 0) (of := o) (by omega) (by omega) (by omega)
    obtain ⟨c1, _⟩ := quant_go hn hl hw (part := o) (of := o) (by omega) (by omega) (by omega)
    rw [show ((0 : Nat) : Int) = 0 from rfl] at b1
    rw [f8_eq, a1, a2, b1, c1, haw]
    unfold quant
    cases total b 0 with
    | none => rfl
    | some t =>
      simp only [Option.map_some, Option.bind_some, Bool.not_true, cond_false, cond_true, bne_self_eq_false, beq_self_eq_true, Bool.not_false]
      by_cases h0 : t = 0
      · subst h0; rfl
      · rw [if_neg h0, if_neg h0, if_neg h0]
        have hz : scan (t * 0) o b 0 0 = 0 := by
          cases b with
          | nil => rfl
          | cons x l => simp [scan]
        rw [hz]
        have hm := scan_mono (W := t * p) (W' := t * o) (of := o) (Nat.mul_le_mul_left _ (by omega)) b 0 0
        have hpw : (2 : Int) ^ scan (t * p) o b 0 0 ≤ 2 ^ scan (t * o) o b 0 0 := by
          rw [two_pow, two_pow]
          exact Int.ofNat_le.2 (Nat.pow_le_pow_right (by decide) hm)
        have hpp := pow_pos2 (scan (t * p) o b 0 0)
        rw [decide_eq_true (show (2 : Int) ^ 0 - 1 ≤ 2 ^ scan (t * p) o b 0 0 - 1 by rw [Int.pow_zero]; omega), decide_eq_true (show (2 : Int) ^ scan (t * p) o b 0 0 - 1 ≤ 2 ^ scan (t * o) o b 0 0 - 1 by omega)]
        rfl
  · have h43 : f43 n b part of = some (0, 1) ∧ f44 n b part of = some (0, false) := by
      rw [f43_eq, f44_eq]
      by_cases h1 : of < 1
      · rw [decide_eq_true h1]; exact ⟨rfl, rfl⟩
      · rw [decide_eq_false h1]
        by_cases h2 : part < 0
        · rw [decide_eq_true h2]; exact ⟨rfl, rfl⟩
        · rw [decide_eq_false h2, decide_eq_true (show part > of by omega)]; exact ⟨rfl, rfl⟩
    rw [f8_eq, h43.1, h43.2, haw]
    rfl
end Go.Proofs.Ytnlnfmakcnadlaa
