/- Each time lies in just one bucket, whose edges are powers of two: the program's and the document's are one. -/
import Derived.Test.YtnlnfmakcnadlaaLFold
namespace Go.Proofs.Ytnlnfmakcnadlaa
open Go.Rf
/-- How many bits a number has. -/
def lenOf (X : Nat) : Nat := if X = 0 then 0 else Nat.log2 X + 1
def IsLen (X L : Nat) : Prop := X < 2 ^ L ∧ (L = 0 ∨ 2 ^ (L - 1) ≤ X)
theorem isLen (X : Nat) : IsLen X (lenOf X) := by
  unfold lenOf IsLen
  by_cases h : X = 0
  · subst h; simp
  · rw [if_neg h]
    exact ⟨Nat.lt_log2_self, .inr (by simpa using Nat.log2_self_le h)⟩
theorem isLen_one {X L M : Nat} (h : IsLen X L) (k : IsLen X M) : L = M := by
  have key : ∀ {L M : Nat}, IsLen X L → IsLen X M → ¬ L < M := by
    intro L M h k hlt
    rcases k.2 with h0 | h1
    · omega
    · have := Nat.pow_le_pow_right (show 2 > 0 by decide) (show L ≤ M - 1 by omega)
      have := h.1
      omega
  have h1 := key h k
  have h2 := key k h
  omega
theorem len_shift {X s : Nat} (h : X / 2 ^ s ≠ 0) : lenOf X = lenOf (X / 2 ^ s) + s := by
  have hk := isLen (X / 2 ^ s)
  refine isLen_one (isLen X) ⟨?_, .inr ?_⟩
  · rw [Nat.pow_add]
    exact (Nat.div_lt_iff_lt_mul (Nat.pow_pos (by decide))).1 hk.1
  · rcases hk.2 with h0 | h1
    · have := hk.1
      rw [h0, Nat.pow_zero] at this
      exact (h (Nat.lt_one_iff.1 this)).elim
    · have hl : 0 < lenOf (X / 2 ^ s) := by unfold lenOf; rw [if_neg h]; omega
      rw [show lenOf (X / 2 ^ s) + s - 1 = lenOf (X / 2 ^ s) - 1 + s by omega, Nat.pow_add]
      exact (Nat.le_div_iff_mul_le (Nat.pow_pos (by decide))).1 h1
theorem len_le {X k : Nat} (h : X < 2 ^ k) : lenOf X ≤ k := by
  rcases (isLen X).2 with h0 | h1
  · omega
  · by_cases hk : lenOf X ≤ k
    · exact hk
    · have := Nat.pow_le_pow_right (show 2 > 0 by decide) (show k ≤ lenOf X - 1 by omega)
      omega
theorem table_size : str0.size = 256 := by decide +kernel
theorem table_all : ∀ v : Nat, v < 256 → byteAt str0 (v : Int) = (lenOf v : Int) := by decide +kernel
theorem wu8 {a : Nat} (h : a < 256) : IntKind.u8.wrap (a : Int) = a := IntWalk.u8_in _ ⟨by omega, by omega⟩
theorem len_15 (n m : Nat) {X s : Nat} (hX : X < 65536) (hs : s ≤ 64) : f80_15 n (m + 1) X s = some ((s + lenOf X : Nat) : Int) := by
  rw [f80_15_eq, table_size]
  by_cases h : X < 256
  · have hl := len_le (X := X) (k := 8) (by omega)
    rw [decide_eq_false (show ¬ (X : Int) ≥ 256 by omega)]
    simp only [cond_false, wu8 h]
    rw [table_all X h, decide_eq_true (show (0 : Int) ≤ (X : Int) ∧ (X : Int) < ((256 : Nat) : Int) by omega), wI (n := (lenOf X : Int)) (by omega) (by omega), wI (by omega) (by omega)]
    rfl
  · have hd : X / 2 ^ 8 < 256 := by omega
    have h0 : X / 2 ^ 8 ≠ 0 := by omega
    have hl := len_le (X := X / 2 ^ 8) (k := 8) hd
    rw [decide_eq_true (show (X : Int) ≥ 256 by omega)]
    simp only [cond_true, shr_nat, wu8 hd]
    rw [table_all _ hd, decide_eq_true (show (0 : Int) ≤ ((X / 2 ^ 8 : Nat) : Int) ∧ ((X / 2 ^ 8 : Nat) : Int) < ((256 : Nat) : Int) from ⟨Int.natCast_nonneg _, Int.ofNat_lt.2 hd⟩), len_shift h0,
      wI (n := (lenOf (X / 2 ^ 8) : Int)) (by omega) (by omega), wI (n := (s : Int) + 8) (by omega) (by omega), wI (by omega) (by omega)]
    simp only [cond_true]
    congr 1
    omega
theorem len_9 (n m : Nat) {X s : Nat} (hX : X < 4294967296) (hs : s ≤ 40) : f80_9 n (m + 2) X s = some ((s + lenOf X : Nat) : Int) := by
  rw [f80_9_eq]
  by_cases h : X < 65536
  · rw [decide_eq_false (show ¬ (X : Int) ≥ 65536 by omega)]
    exact len_15 n m h (by omega)
  · rw [decide_eq_true (show (X : Int) ≥ 65536 by omega)]
    simp only [cond_true, shr_nat]
    rw [wI (n := (s : Int) + 16) (by omega) (by omega), show (s : Int) + 16 = ((s + 16 : Nat) : Int) by omega, len_15 n m (by omega) (by omega), len_shift (X := X) (s := 16) (by omega)]
    congr 2
    omega
theorem len_go (n : Nat) {X : Nat} (hX : X < 18446744073709551616) : f80 (n + 2) X = some (lenOf X : Int) := by
  rw [f80_eq]
  by_cases h : X < 4294967296
  · rw [decide_eq_false (show ¬ (X : Int) ≥ 4294967296 by omega)]
    have := len_9 (n + 2) n (s := 0) h (by omega)
    rw [Nat.zero_add] at this
    exact this
  · rw [decide_eq_true (show (X : Int) ≥ 4294967296 by omega)]
    simp only [cond_true, shr_nat]
    have := len_9 (n + 2) n (X := X / 2 ^ 32) (s := 32) (by omega) (by omega)
    rw [show ((lenOf X : Nat) : Int) = ((32 + lenOf (X / 2 ^ 32) : Nat) : Int) by rw [len_shift (X := X) (s := 32) (by omega)]; omega]
    exact this
/-- A bucket's edges. -/
def edgeF (b : Nat) : Int × Int := if b = 0 then (0, 0) else (2 ^ (b - 1), 2 ^ b - 1)
theorem pow_pred {b : Nat} (h : 1 ≤ b) : (2 : Int) ^ b = 2 ^ (b - 1) * 2 := by
  have := pow_succ2 (b - 1)
  rw [show b - 1 + 1 = b by omega] at this
  exact this
theorem edge_go (n : Nat) {b : Nat} (hb : b ≤ 63) : f47 n b = some ((edgeF b).1, (edgeF b).2, 0) := by
  rw [f47_eq, decide_eq_false (show ¬ (b : Int) < 0 by omega), decide_eq_false (show ¬ (b : Int) > 63 by omega)]
  simp only [cond_false]
  unfold edgeF
  by_cases h : b = 0
  · subst h; rfl
  · rw [beq_false_of_ne (show (b : Int) ≠ 0 by omega), if_neg h, wI (n := (b : Int) - 1) (by omega) (by omega), decide_eq_false (show ¬ (b : Int) - 1 < 0 by omega), show (b : Int) - 1 = ((b - 1 : Nat) : Int) by omega]
    have h62 := pow_62 (i := b - 1) (by omega)
    have hp := pow_pos2 (b - 1)
    have e := toNat_min (b := b - 1) (by omega)
    simp only [cond_false, e, Int.one_mul]
    rw [wI (n := 2 ^ (b - 1)) (by omega) (by omega), wI (n := 2 ^ (b - 1) - 1) (by omega) (by omega), wI (n := 2 ^ (b - 1) + (2 ^ (b - 1) - 1)) (by omega) (by omega), pow_pred (b := b) (by omega)]
    congr 3
    omega
theorem edge_loop (n : Nat) {b : Nat} (hb : 1 ≤ b ∧ b ≤ 63) : ∀ (k i m : Nat), i + k = b → 1 ≤ i → k < m → f48_14 n m b (2 ^ (i - 1)) i = some ((edgeF b).1, (edgeF b).2, 0) := by
  intro k
  induction k with
  | zero =>
    intro i m hk hi hm
    obtain ⟨m, rfl⟩ : ∃ q, m = q + 1 := ⟨m - 1, by omega⟩
    obtain rfl : i = b := by omega
    have h62 := pow_62 (i := i - 1) (by omega)
    have hp := pow_pos2 (i - 1)
    unfold edgeF
    rw [f48_14_eq, decide_eq_false (by omega), if_neg (by omega), wI (n := 2 ^ (i - 1) - 1) (by omega) (by omega), wI (n := 2 ^ (i - 1) + (2 ^ (i - 1) - 1)) (by omega) (by omega), pow_pred (b := i) hi]
    simp only [cond_false]
    congr 3
    omega
  | succ k ih =>
    intro i m hk hi hm
    obtain ⟨m, rfl⟩ : ∃ q, m = q + 1 := ⟨m - 1, by omega⟩
    have h62 := pow_62 (i := i) (by omega)
    have hp := pow_pos2 i
    rw [f48_14_eq, decide_eq_true (by omega), ← pow_pred hi, wI (by omega) (by omega), wI (n := (i : Int) + 1) (by omega) (by omega)]
    exact ih (i + 1) m (by omega) (by omega) (by omega)
theorem edge_ref {n : Nat} (hn : 64 ≤ n) {b : Nat} (hb : b ≤ 63) : f48 n b = some ((edgeF b).1, (edgeF b).2, 0) := by
  rw [f48_eq, decide_eq_false (show ¬ (b : Int) < 0 by omega), decide_eq_false (show ¬ (b : Int) > 63 by omega)]
  simp only [cond_false]
  by_cases h : b = 0
  · subst h; rfl
  · rw [beq_false_of_ne (show (b : Int) ≠ 0 by omega)]
    exact edge_loop n ⟨by omega, hb⟩ (b - 1) 1 n (by omega) (by omega) (by omega)
theorem edges_alike {n : Nat} (hn : 64 ≤ n) (b : Int) : f47 n b = f48 n b ∧ ∃ r, f47 n b = some r := by
  by_cases h1 : b < 0
  · rw [f47_eq, f48_eq, decide_eq_true h1]; exact ⟨rfl, _, rfl⟩
  · by_cases h2 : b > 63
    · rw [f47_eq, f48_eq, decide_eq_false h1, decide_eq_true h2]; exact ⟨rfl, _, rfl⟩
    · obtain ⟨k, rfl⟩ := Int.eq_ofNat_of_zero_le (show 0 ≤ b by omega)
      rw [edge_go n (by omega), edge_ref hn (by omega)]
      exact ⟨rfl, _, rfl⟩
theorem in_edges (D b : Nat) : ((D : Int) ≥ (edgeF b).1 ∧ (D : Int) ≤ (edgeF b).2) ↔ IsLen D b := by
  unfold edgeF IsLen
  by_cases h : b = 0
  · subst h
    simp only [if_true, Nat.pow_zero]
    constructor
    · intro h; exact ⟨by omega, .inl trivial⟩
    · intro h; omega
  · rw [if_neg h, two_pow, two_pow]
    constructor
    · intro ⟨h1, h2⟩
      have h1 : ((2 ^ (b - 1) : Nat) : Int) ≤ (D : Int) := h1
      have h2 : (D : Int) < ((2 ^ b : Nat) : Int) := Int.lt_of_le_sub_one h2
      exact ⟨Int.ofNat_lt.1 h2, .inr (Int.ofNat_le.1 h1)⟩
    · intro ⟨h1, h2⟩
      rcases h2 with h2 | h2
      · exact (h h2).elim
      · exact ⟨Int.ofNat_le.2 h2, Int.le_sub_one_of_lt (Int.ofNat_lt.2 h1)⟩
theorem bucket_loop {n : Nat} (hn : 64 ≤ n) {D : Nat} (hD : D < 9223372036854775808) : ∀ (k b m : Nat), b + k = lenOf D → k < m → f46_8 n m D b = some ((lenOf D : Int), 0) := by
  have hl : lenOf D ≤ 63 := len_le hD
  intro k
  induction k with
  | zero =>
    intro b m hk hm
    obtain ⟨m, rfl⟩ : ∃ q, m = q + 1 := ⟨m - 1, by omega⟩
    obtain rfl : b = lenOf D := by omega
    obtain ⟨h1, h2⟩ := (in_edges D _).2 (isLen D)
    rw [f46_8_eq, decide_eq_true (by omega), edge_ref hn hl]
    simp only [cond_true, Option.bind_some]
    rw [decide_eq_true h1, decide_eq_true h2]
    rfl
  | succ k ih =>
    intro b m hk hm
    obtain ⟨m, rfl⟩ : ∃ q, m = q + 1 := ⟨m - 1, by omega⟩
    have hne : ¬ ((D : Int) ≥ (edgeF b).1 ∧ (D : Int) ≤ (edgeF b).2) := fun h => by
      have := isLen_one ((in_edges D b).1 h) (isLen D)
      omega
    rw [f46_8_eq, decide_eq_true (by omega), edge_ref hn (by omega), wI (n := (b : Int) + 1) (by omega) (by omega), show (b : Int) + 1 = ((b + 1 : Nat) : Int) by omega, ih (b + 1) m (by omega) (by omega)]
    simp only [cond_true, Option.bind_some]
    by_cases h1 : (D : Int) ≥ (edgeF b).1
    · rw [decide_eq_true h1, decide_eq_false (fun h2 => hne ⟨h1, h2⟩)]; rfl
    · rw [decide_eq_false h1]; rfl
theorem ticks_buckets {n : Nat} (hn : 66 ≤ n) {d bucket : Int} (hd : i64 d) : f9 (n + 4) d bucket = some true := by
  obtain ⟨h1, r, hr⟩ := edges_alike (show 64 ≤ n + 4 by omega) bucket
  rw [f9_eq, ← h1, hr, awake_tick]
  by_cases h : d < 0
  · obtain ⟨_, q, hq⟩ := edges_alike (show 64 ≤ n + 4 by omega) 0
    rw [f45_eq, f46_eq, decide_eq_true h]
    simp only [cond_true, Option.bind_some, hq, bne_self_eq_false, Bool.not_true, cond_false]
    rfl
  · obtain ⟨D, rfl⟩ := Int.eq_ofNat_of_zero_le (show 0 ≤ d by omega)
    have hD : D < 9223372036854775808 := by have := hd.2; omega
    have hl : lenOf D ≤ 63 := len_le hD
    have hb := bucket_loop (show 64 ≤ n + 4 by omega) hD (lenOf D) 0 (n + 4) (by omega) (by omega)
    rw [show ((0 : Nat) : Int) = 0 from rfl] at hb
    obtain ⟨h2, h3⟩ := (in_edges D _).2 (isLen D)
    rw [f45_eq, f46_eq, decide_eq_false h, wU (n := (D : Int)) (by omega) (by omega), show n + 4 = (n + 2) + 2 by omega, len_go (n + 2) (by omega), show n + 2 + 2 = n + 4 by omega, hb]
    simp only [cond_false, Option.bind_some, edge_go (n + 4) hl, bne_self_eq_false, Bool.not_true, decide_eq_true h2, decide_eq_true h3, beq_self_eq_true, cond_true]
end Go.Proofs.Ytnlnfmakcnadlaa
