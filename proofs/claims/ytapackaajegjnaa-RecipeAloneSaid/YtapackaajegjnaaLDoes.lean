/- One step of a recipe: what the program's and the document's functions tell is one and the same. -/
import Derived.Test.YtapackaajegjnaaLSame
import Derived.Test.YtapackaajegjnaaLLoop
import Derived.Test.YtapackaajegjnaaGb
namespace Go.Proofs.Ytapackaajegjnaa
open Go.Rf
/-! ### numbers -/
theorem w64 (n : Int) : IntKind.i64.wrap n = (n + 9223372036854775808) % 18446744073709551616 - 9223372036854775808 := by
  rw [IntKind.wrap_i64]
theorem w64_add (n q : Int) : IntKind.i64.wrap (n + q * 18446744073709551616) = IntKind.i64.wrap n := by
  rw [w64, w64]
  omega
theorem w64_mul (a c : Int) : IntKind.i64.wrap (IntKind.i64.wrap a * c) = IntKind.i64.wrap (a * c) := by
  obtain ⟨q, hq⟩ : ∃ q, IntKind.i64.wrap a = a + q * 18446744073709551616 := ⟨-((a + 9223372036854775808) / 18446744073709551616), by rw [w64]; omega⟩
  rw [hq, Int.add_mul, Int.mul_assoc, Int.mul_comm 18446744073709551616 c, ← Int.mul_assoc, w64_add]
theorem half {x : Int} (h : i64 x) : (bif decide (x < 0) then (bif x.tmod 2 != 0 then IntKind.i64.wrap ((IntKind.i64.wrap (x - 1)).tdiv 2) else IntKind.i64.wrap (x.tdiv 2)) else IntKind.i64.wrap (x.tdiv 2)) = x / 2 := by
  obtain ⟨h1, h2⟩ := h
  by_cases h0 : x < 0
  · rw [decide_eq_true h0, cond_true]
    by_cases hm : x.tmod 2 = 0
    · rw [hm, bne_self_eq_false, cond_false]
      have : x.tdiv 2 = x / 2 := by
        rw [Int.tdiv_eq_ediv, if_pos (.inr (Int.dvd_of_tmod_eq_zero hm)), Int.add_zero]
      rw [this, wI (by omega) (by omega)]
    · have e : (x.tmod 2 != 0) = true := by simp [hm]
      have hodd : x % 2 = 1 := by
        have h3 : ¬ (2 : Int) ∣ x := fun hd => hm (Int.tmod_eq_zero_of_dvd hd)
        rw [Int.dvd_iff_emod_eq_zero] at h3
        omega
      rw [e, cond_true, wI (n := x - 1) (by omega) (by omega)]
      have : (x - 1).tdiv 2 = (x - 1) / 2 := by
        rw [Int.tdiv_eq_ediv, if_pos (.inr (by rw [Int.dvd_iff_emod_eq_zero]; omega)), Int.add_zero]
      rw [this, wI (by omega) (by omega)]
      omega
  · rw [decide_eq_false h0, cond_false]
    have : x.tdiv 2 = x / 2 := by
      rw [Int.tdiv_eq_ediv, if_pos (.inl (by omega)), Int.add_zero]
    rw [this, wI (by omega) (by omega)]
theorem ediv_two (x : Int) (k : Nat) : x / 2 / 2 ^ k = x / 2 ^ (k + 1) := by
  rw [Int.pow_succ, Int.mul_comm, Int.ediv_ediv_of_nonneg (by decide)]
/-- Shifted to the right. -/
theorem right_loop (n : Nat) : ∀ (k m : Nat) (x : Int), i64 x → k ≤ 63 → k < m → f29_8 n m x (-(k : Int)) = some (x / 2 ^ k) := by
  intro k
  induction k with
  | zero =>
    intro m x _ _ hm
    obtain ⟨m, rfl⟩ : ∃ q, m = q + 1 := ⟨m - 1, by omega⟩
    rw [f29_8_eq, decide_eq_false (show ¬ -((0 : Nat) : Int) < 0 by omega), cond_false, Int.pow_zero, Int.ediv_one]
  | succ k ih =>
    intro m x hx hk hm
    obtain ⟨m, rfl⟩ : ∃ q, m = q + 1 := ⟨m - 1, by omega⟩
    have h2 : i64 (x / 2) := by obtain ⟨h1, h2⟩ := hx; constructor <;> omega
    have := ih m (x / 2) h2 (by omega) (by omega)
    rw [ediv_two] at this
    rw [f29_8_eq, decide_eq_true (show -((k + 1 : Nat) : Int) < 0 by omega), cond_true, wI (n := -((k + 1 : Nat) : Int) + 1) (by omega) (by omega), show -((k + 1 : Nat) : Int) + 1 = -(k : Int) by omega, ← this, ← half hx]
    cases decide (x < 0) <;> cases x.tmod 2 != 0 <;> rfl
/-- Shifted to the left. -/
theorem left_loop (n : Nat) : ∀ (k m : Nat) (x : Int), i64 x → k ≤ 63 → k + 2 ≤ m → f29_2 n m x k = some (IntKind.i64.wrap (x * 2 ^ k)) := by
  intro k
  induction k with
  | zero =>
    intro m x hx _ hm
    obtain ⟨m, rfl⟩ : ∃ q, m = q + 1 := ⟨m - 1, by omega⟩
    have := right_loop n 0 m x hx (by omega) (by omega)
    rw [f29_2_eq, decide_eq_false (show ¬ ((0 : Nat) : Int) > 0 by omega), cond_false, Int.pow_zero, Int.mul_one, wI hx.1 hx.2]
    rw [show -((0 : Nat) : Int) = ((0 : Nat) : Int) by omega, Int.pow_zero, Int.ediv_one] at this
    exact this
  | succ k ih =>
    intro m x hx hk hm
    obtain ⟨m, rfl⟩ : ∃ q, m = q + 1 := ⟨m - 1, by omega⟩
    rw [f29_2_eq, decide_eq_true (show ((k + 1 : Nat) : Int) > 0 by omega), cond_true, wI (n := ((k + 1 : Nat) : Int) - 1) (by omega) (by omega), show ((k + 1 : Nat) : Int) - 1 = (k : Int) by omega, ih m _ (wI_i64 _) (by omega) (by omega), w64_mul,
      Int.pow_succ, Int.mul_assoc, Int.mul_comm 2 ((2 : Int) ^ k)]
theorem shift_same {n : Nat} (hn : 70 ≤ n) {x b : Int} (hx : i64 x) (hb : -63 ≤ b ∧ b ≤ 63) : f43 n x b = f29 n x b := by
  rw [f43_eq, f29_eq, decide_eq_false (show ¬ IntKind.u64.wrap (IntKind.i64.wrap (0 - b)) < 0 by have := (wU_u64 (IntKind.i64.wrap (0 - b))).1; omega), decide_eq_false (show ¬ IntKind.u64.wrap b < 0 by have := (wU_u64 b).1; omega)]
  simp only [cond_false]
  by_cases h : b < 0
  · obtain ⟨k, rfl⟩ : ∃ k : Nat, b = -(k : Int) := ⟨(-b).toNat, by omega⟩
    obtain ⟨n', hn'⟩ : ∃ q, n = q + 1 := ⟨n - 1, by omega⟩
    have : f29_2 n n x (-(k : Int)) = f29_8 n n' x (-(k : Int)) := by
      conv => lhs; arg 2; rw [hn']
      rw [f29_2_eq, decide_eq_false (by omega), cond_false]
    rw [decide_eq_true h, cond_true, this, right_loop n k n' x hx (by omega) (by omega), wI (n := 0 - -(k : Int)) (by omega) (by omega), wU (by omega) (by omega), show (0 - -(k : Int)).toNat = k by omega, Nat.min_eq_left (by omega), Int.fdiv_eq_ediv_of_nonneg _ (Int.pow_nonneg (by decide))]
  · obtain ⟨k, rfl⟩ : ∃ k : Nat, b = (k : Int) := ⟨b.toNat, by omega⟩
    rw [decide_eq_false h, cond_false, left_loop n k n x hx (by omega) (by omega), wU (by omega) (by omega), Int.toNat_natCast, Nat.min_eq_left (by omega)]
theorem shift_i64 {n : Nat} (hn : 70 ≤ n) {x b : Int} (hx : i64 x) (hb : -63 ≤ b ∧ b ≤ 63) : ∃ r, f29 n x b = some r ∧ i64 r := by
  rw [f29_eq]
  by_cases h : b < 0
  · obtain ⟨k, rfl⟩ : ∃ k : Nat, b = -(k : Int) := ⟨(-b).toNat, by omega⟩
    obtain ⟨n', hn'⟩ : ∃ q, n = q + 1 := ⟨n - 1, by omega⟩
    have : f29_2 n n x (-(k : Int)) = f29_8 n n' x (-(k : Int)) := by
      conv => lhs; arg 2; rw [hn']
      rw [f29_2_eq, decide_eq_false (by omega), cond_false]
    rw [this, right_loop n k n' x hx (by omega) (by omega)]
    refine ⟨_, rfl, ?_⟩
    have hp : (1 : Int) ≤ 2 ^ k := by
      have h : (0 : Int) < 2 ^ k := Int.pow_pos (by decide)
      omega
    obtain ⟨h1, h2⟩ := hx
    constructor
    · exact Int.le_ediv_of_mul_le (by omega) (Int.le_trans (Int.mul_le_mul_of_nonpos_left (by decide) hp) (by omega))
    · have h3 := Int.mul_le_mul_of_nonneg_left hp (show (0 : Int) ≤ 9223372036854775807 by decide)
      exact Int.ediv_le_of_le_mul (by omega) (by omega)
  · obtain ⟨k, rfl⟩ : ∃ k : Nat, b = (k : Int) := ⟨b.toNat, by omega⟩
    rw [left_loop n k n x hx (by omega) (by omega)]
    exact ⟨_, rfl, wI_i64 _⟩
/-! ### bits turned -/
theorem rot_step (x P Q : Nat) (hPQ : P * Q = 9223372036854775808) (hx : x < 18446744073709551616) (hP : 0 < P) :
    (2 * (x % (P * 2) * Q + x / (P * 2))) % 18446744073709551616 + (x % (P * 2) * Q + x / (P * 2)) / 9223372036854775808 = x % P * (Q * 2) + x / P := by
  have h1 : x / (P * 2) = x / P / 2 := (Nat.div_div_eq_div_mul x P 2).symm
  have h2 : x % (P * 2) = x % P + P * (x / P % 2) := Nat.mod_mul
  have h3 : x % P * Q + Q ≤ 9223372036854775808 := by
    rw [← hPQ]
    have := Nat.mul_le_mul_right Q (show x % P + 1 ≤ P from Nat.mod_lt x hP)
    rw [Nat.add_mul, Nat.one_mul] at this
    exact this
  have h4 : x / P < 2 * Q := by
    refine Nat.div_lt_of_lt_mul ?_
    rw [show P * (2 * Q) = 2 * (P * Q) by rw [Nat.mul_left_comm], hPQ]
    exact hx
  have h5 : (x % P + P * (x / P % 2)) * Q = x % P * Q + 9223372036854775808 * (x / P % 2) := by
    rw [Nat.add_mul, Nat.mul_right_comm, hPQ]
  have h6 : x % P * (Q * 2) = 2 * (x % P * Q) := by rw [← Nat.mul_assoc, Nat.mul_comm]
  rw [h1, h2, h5, h6]
  generalize x % P * Q = y at *
  generalize x / P = z at *
  omega
/-- A number's bits, turned by k. -/
def rotN (x k : Nat) : Nat := x % 2 ^ (64 - k) * 2 ^ k + x / 2 ^ (64 - k)
theorem rot_lt {x k : Nat} (hx : x < 18446744073709551616) (hk : k ≤ 63) : rotN x k < 18446744073709551616 := by
  have hp : 2 ^ (64 - k) * 2 ^ k = 18446744073709551616 := by rw [← Nat.pow_add, show 64 - k + k = 64 by omega]
  have h1 : x % 2 ^ (64 - k) + 1 ≤ 2 ^ (64 - k) := Nat.mod_lt x (Nat.two_pow_pos _)
  have h2 : x / 2 ^ (64 - k) < 2 ^ k := Nat.div_lt_of_lt_mul (by rw [hp]; exact hx)
  have h3 := Nat.mul_le_mul_right (2 ^ k) h1
  rw [hp, Nat.add_mul, Nat.one_mul] at h3
  unfold rotN
  omega
theorem turn_loop (n : Nat) (x : Nat) (hx : x < 18446744073709551616) : ∀ (j k m : Nat), k + j ≤ 63 → j < m → f31_4 n m j (rotN x k : Nat) = some (IntKind.i64.wrap (rotN x (k + j) : Nat)) := by
  intro j
  induction j with
  | zero =>
    intro k m _ hm
    obtain ⟨m, rfl⟩ : ∃ q, m = q + 1 := ⟨m - 1, by omega⟩
    rw [f31_4_eq, decide_eq_false (show ¬ ((0 : Nat) : Int) > 0 by omega)]
    rfl
  | succ j ih =>
    intro k m hk hm
    obtain ⟨m, rfl⟩ : ∃ q, m = q + 1 := ⟨m - 1, by omega⟩
    have hlt := rot_lt (x := x) (k := k) hx (by omega)
    have step : rotN x (k + 1) = (2 * rotN x k) % 18446744073709551616 + rotN x k / 9223372036854775808 := by
      have h := rot_step x (2 ^ (63 - k)) (2 ^ k) (by rw [← Nat.pow_add, show 63 - k + k = 63 by omega]) hx (Nat.two_pow_pos _)
      rw [← Nat.pow_succ, show (63 - k).succ = 64 - k by omega, ← Nat.pow_succ] at h
      unfold rotN
      rw [show 64 - (k + 1) = 63 - k by omega]
      exact h.symm
    have := ih (k + 1) m (by omega) (by omega)
    rw [show k + 1 + j = k + (j + 1) by omega] at this
    rw [f31_4_eq, decide_eq_true (show ((j + 1 : Nat) : Int) > 0 by omega), cond_true, wI (n := ((j + 1 : Nat) : Int) - 1) (by omega) (by omega), show ((j + 1 : Nat) : Int) - 1 = (j : Int) by omega, ← this, step, wU_mod, wU_mod]
    generalize rotN x k = R at *
    by_cases h : (R : Int) ≥ 9223372036854775808
    · rw [decide_eq_true h, cond_true]
      congr 1
      omega
    · rw [decide_eq_false h, cond_false]
      congr 1
      omega
theorem or_nat (a b : Nat) (ha : a < 18446744073709551616) (hb : b < 18446744073709551616) : (BitVec.ofInt 64 (a : Int) ||| BitVec.ofInt 64 (b : Int)).toNat = a ||| b := by
  rw [BitVec.toNat_or, BitVec.ofInt_natCast, BitVec.ofInt_natCast, BitVec.toNat_ofNat, BitVec.toNat_ofNat, Nat.mod_eq_of_lt ha, Nat.mod_eq_of_lt hb]
theorem turn_same {n : Nat} (hn : 70 ≤ n) {a b : Int} (hb : 0 ≤ b ∧ b ≤ 63) : ((f45 n (IntKind.u64.wrap a) b).bind fun r => some (IntKind.i64.wrap r)) = f31 n a b := by
  obtain ⟨k, rfl⟩ : ∃ k : Nat, b = (k : Int) := ⟨b.toNat, by omega⟩
  have hu := wU_u64 a
  rw [f31_eq]
  generalize IntKind.u64.wrap a = X at *
  obtain ⟨x, rfl⟩ : ∃ x : Nat, X = (x : Int) := ⟨X.toNat, by have := hu.1; omega⟩
  have hx : x < 18446744073709551616 := by have := hu.2; omega
  have h0 : rotN x 0 = x := by
    unfold rotN
    rw [Nat.pow_zero, Nat.mul_one, show 2 ^ (64 - 0) = 18446744073709551616 from rfl, Nat.mod_eq_of_lt hx, Nat.div_eq_of_lt hx]
    omega
  have hl := turn_loop n x hx k 0 n (by omega) (by omega)
  rw [h0, Nat.zero_add] at hl
  rw [hl, f45_eq]
  have hk : IntKind.u64.wrap ↑(BitVec.ofInt 64 (IntKind.u64.wrap (k : Int)) &&& BitVec.ofInt 64 63).toNat = (k : Int) := by
    have e : (BitVec.ofInt 64 (IntKind.u64.wrap (k : Int)) &&& BitVec.ofInt 64 63).toNat = k := by
      rw [wU (by omega) (by omega), BitVec.toNat_and, BitVec.ofInt_natCast, BitVec.toNat_ofNat, Nat.mod_eq_of_lt (by omega)]
      show k &&& 63 = k
      rw [show (63 : Nat) = 2 ^ 6 - 1 from rfl, Nat.and_two_pow_sub_one_eq_mod]
      exact Nat.mod_eq_of_lt (by omega)
    rw [e, wU (by omega) (by omega)]
  rw [hk, wU (n := 64 - (k : Int)) (by omega) (by omega), decide_eq_false (show ¬ (64 - (k : Int)) < 0 by omega), cond_false, Option.bind_some, Int.toNat_natCast, Nat.min_eq_left (by omega), show (64 - (k : Int)).toNat = 64 - k by omega, Nat.min_eq_left (by omega)]
  have hp : 2 ^ (64 - k) * 2 ^ k = 18446744073709551616 := by rw [← Nat.pow_add, show 64 - k + k = 64 by omega]
  have e1 : IntKind.u64.wrap ((x : Int) * 2 ^ k) = ((x % 2 ^ (64 - k) * 2 ^ k : Nat) : Int) := by
    rw [wU_mod, show (18446744073709551616 : Int) = ((18446744073709551616 : Nat) : Int) from rfl, ← hp, show ((2 : Int) ^ k) = ((2 ^ k : Nat) : Int) by simp, ← Int.natCast_mul, ← Int.natCast_emod, Nat.mul_mod_mul_right]
  have e2 : (x : Int).fdiv (2 ^ (64 - k)) = ((x / 2 ^ (64 - k) : Nat) : Int) := by
    rw [Int.fdiv_eq_ediv_of_nonneg _ (Int.pow_nonneg (by decide)), show ((2 : Int) ^ (64 - k)) = ((2 ^ (64 - k) : Nat) : Int) by simp, ← Int.natCast_ediv]
  have h2 : x / 2 ^ (64 - k) < 2 ^ k := Nat.div_lt_of_lt_mul (by rw [hp]; exact hx)
  have h3 : x % 2 ^ (64 - k) * 2 ^ k < 18446744073709551616 := by
    rw [← hp]
    exact Nat.mul_lt_mul_of_pos_right (Nat.mod_lt x (Nat.two_pow_pos _)) (Nat.two_pow_pos _)
  have h4 : x / 2 ^ (64 - k) < 18446744073709551616 := Nat.lt_of_le_of_lt (Nat.div_le_self _ _) hx
  have hr := rot_lt (x := x) (k := k) hx (by omega)
  rw [e1, e2, or_nat _ _ h3 h4, Nat.mul_comm, ← Nat.two_pow_add_eq_or_of_lt h2, Nat.mul_comm]
  show some (IntKind.i64.wrap (IntKind.u64.wrap (rotN x k : Nat))) = _
  rw [wU (by omega) (by omega)]
/-! ### keys -/
theorem over_loop (n : Nat) : ∀ (j m : Nat) (x : Int) (i : Nat), u64 x → i + j ≤ 64 → j < m → f40_4 n m x ((i + j : Nat) : Int) i = some (x / 2 ^ j) := by
  intro j
  induction j with
  | zero =>
    intro m x i _ _ hm
    obtain ⟨m, rfl⟩ : ∃ q, m = q + 1 := ⟨m - 1, by omega⟩
    rw [f40_4_eq, decide_eq_false (show ¬ (i : Int) < ((i + 0 : Nat) : Int) by omega), cond_false, Int.pow_zero, Int.ediv_one]
  | succ j ih =>
    intro m x i hx hi hm
    obtain ⟨m, rfl⟩ : ∃ q, m = q + 1 := ⟨m - 1, by omega⟩
    obtain ⟨h1, h2⟩ := hx
    have ht : IntKind.u64.wrap (x.tdiv 2) = x / 2 := by
      rw [Int.tdiv_eq_ediv, if_pos (.inl h1), Int.add_zero, wU (by omega) (by omega)]
    have := ih m (x / 2) (i + 1) ⟨by omega, by omega⟩ (by omega) (by omega)
    rw [ediv_two, show i + 1 + j = i + (j + 1) by omega] at this
    rw [f40_4_eq, decide_eq_true (show (i : Int) < ((i + (j + 1) : Nat) : Int) by omega), cond_true, ht, wI (n := (i : Int) + 1) (by omega) (by omega)]
    exact this
theorem over_go {n : Nat} (hn : 70 ≤ n) {x : Int} (hx : u64 x) {k : Nat} (hk : k ≤ 64) : f40 n x k = some (x / 2 ^ k) := by
  rw [f40_eq]
  have := over_loop n k n x 0 hx (by omega) (by omega)
  rw [Nat.zero_add] at this
  exact this
theorem told_same (n : Nat) {k : Int × ByteArray} (hk : 0 ≤ k.1 ∧ k.1 ≤ 65535) : f57 n k = f39 n k := by
  rw [f57_eq, f39_eq]
  have e1 : Int.tmod k.1 256 = k.1 % 256 := Int.tmod_eq_emod_of_nonneg hk.1
  have e2 : Int.tdiv k.1 256 = k.1 / 256 := by rw [Int.tdiv_eq_ediv, if_pos (.inl hk.1), Int.add_zero]
  have e3 : Int.fdiv k.1 (2 ^ 8) = k.1 / 256 := by
    rw [Int.fdiv_eq_ediv_of_nonneg _ (by decide)]
    rfl
  have w8 : ∀ z : Int, IntKind.u8.wrap z = z % 256 := fun z => IntKind.wrap_u8 z
  have w16 : ∀ z : Int, IntKind.u16.wrap z = z % 65536 := fun z => IntKind.wrap_u16 z
  rw [e1, e2, e3, w16, Int.emod_eq_of_lt (a := k.1 / 256) (b := 65536) (by omega) (by omega), w8 (k.1 % 256), Int.emod_emod, w8 k.1]
theorem hash_step {n : Nat} (hn : 70 ≤ n) {s : ByteArray} (hs : s.size ≤ 4611686018427387904) : ∀ (k i m : Nat) (h : Int), u64 h → i + k = s.size → k < m → f44_8 n m h s s.size i = f30_8 n m h s i := by
  intro k
  induction k with
  | zero =>
    intro i m h hh hi hm
    obtain ⟨m, rfl⟩ : ∃ q, m = q + 1 := ⟨m - 1, by omega⟩
    have o1 := over_go hn hh (k := 32) (by omega)
    have f1 : h.fdiv (2 ^ 32) = h / 2 ^ 32 := Int.fdiv_eq_ediv_of_nonneg _ (by decide)
    rw [f44_8_eq, f30_8_eq, decide_eq_false (show ¬ (i : Int) < (s.size : Int) by omega), cond_false, cond_false, show (32 : Int) = ((32 : Nat) : Int) from rfl, o1, Option.bind_some, f1]
    have o2 := over_go hn (wU_u64 (IntKind.u64.wrap ↑(BitVec.ofInt 64 h ^^^ BitVec.ofInt 64 (h / 2 ^ 32)).toNat * 11400714819323198485)) (k := 29) (by omega)
    rw [show (29 : Int) = ((29 : Nat) : Int) from rfl, o2, Option.bind_some, Int.fdiv_eq_ediv_of_nonneg _ (by decide)]
  | succ k ih =>
    intro i m h hh hi hm
    obtain ⟨m, rfl⟩ : ∃ q, m = q + 1 := ⟨m - 1, by omega⟩
    have := ih (i + 1) m (IntKind.u64.wrap (IntKind.u64.wrap ↑(BitVec.ofInt 64 h ^^^ BitVec.ofInt 64 (IntKind.u64.wrap (byteAt s i))).toNat * 1099511628211)) (wU_u64 _) (by omega) (by omega)
    rw [show ((i + 1 : Nat) : Int) = (i : Int) + 1 by omega] at this
    rw [f44_8_eq, f30_8_eq, decide_eq_true (show (i : Int) < (s.size : Int) by omega), decide_eq_true (show (0 : Int) ≤ (i : Int) ∧ (i : Int) < (s.size : Int) by omega), wI (n := (i : Int) + 1) (by omega) (by omega), cond_true, cond_true, cond_true, cond_true]
    exact this
theorem hash_same {n : Nat} {k : Int × ByteArray} (hk : k.2.size ≤ reachBytes) (h16 : 0 ≤ k.1 ∧ k.1 ≤ 65535) (hn : k.2.size + 70 ≤ n) : f44 n k = f30 n k := by
  have hr : reachBytes = 140737488351232 := by decide
  obtain ⟨s, h1, h2⟩ := told_some n hk
  rw [f44_eq, f30_eq, ← told_same n h16, h1, Option.bind_some, Option.bind_some]
  exact hash_step (by omega) (by omega) s.size 0 n 14695981039346656037 ⟨by omega, by omega⟩ (by omega) (by omega)
end Go.Proofs.Ytapackaajegjnaa
