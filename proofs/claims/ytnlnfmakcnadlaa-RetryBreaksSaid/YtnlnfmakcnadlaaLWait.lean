/- Waits: the part that is taken off is told alike, by two words and digit by digit. -/
import Derived.Test.YtnlnfmakcnadlaaLBucket
import Derived.Test.YtnlnfmakcnadlaaGb
namespace Go.Proofs.Ytnlnfmakcnadlaa
open Go.Rf
/-- The high word is the product over two to the sixty-fourth. -/
theorem high_is {x y : Int} (hx : u64 x) (hy : u64 y) :
    hiF (x / 4294967296 * (y / 4294967296)) (x / 4294967296 * (y % 4294967296)) (x % 4294967296 * (y / 4294967296)) (x % 4294967296 * (y % 4294967296)) = x * y / 18446744073709551616 := by
  have e : x * y = 18446744073709551616 * (x / 4294967296 * (y / 4294967296)) + 4294967296 * (x / 4294967296 * (y % 4294967296)) + 4294967296 * (x % 4294967296 * (y / 4294967296)) + x % 4294967296 * (y % 4294967296) := by
    have ex := Int.mul_ediv_add_emod x 4294967296
    have ey := Int.mul_ediv_add_emod y 4294967296
    generalize x / 4294967296 = a at ex ⊢
    generalize x % 4294967296 = b at ex ⊢
    generalize y / 4294967296 = c at ey ⊢
    generalize y % 4294967296 = d at ey ⊢
    subst ex; subst ey
    grind
  obtain ⟨hx1, hx0⟩ := halves hx
  obtain ⟨hy1, hy0⟩ := halves hy
  have p1 := half_prod hx1 hy1
  have p2 := half_prod hx1 hy0
  have p3 := half_prod hx0 hy1
  have p4 := half_prod hx0 hy0
  generalize x / 4294967296 * (y / 4294967296) = p at *
  generalize x / 4294967296 * (y % 4294967296) = q at *
  generalize x % 4294967296 * (y / 4294967296) = r at *
  generalize x % 4294967296 * (y % 4294967296) = s at *
  generalize x * y = z at *
  unfold hiF
  omega
theorem mul_is (n : Nat) {x y : Int} (hx : u64 x) (hy : u64 y) : f78 n x y = some (x * y / 18446744073709551616, x * y % 18446744073709551616) := by
  obtain ⟨l, hl⟩ := mul_go n hx hy
  have h2 : l = IntKind.u64.wrap (x * y) := by
    have := f78_eq n x y
    rw [hl] at this
    exact congrArg Prod.snd (Option.some.inj this)
  rw [hl, high_is hx hy, h2, wU_mod]
theorem or_wrap {a b : Nat} (ha : a < 18446744073709551616) (hb : b < 18446744073709551616) :
    IntKind.u64.wrap ↑(BitVec.ofInt 64 (a : Int) ||| BitVec.ofInt 64 (b : Int)).toNat = ((a ||| b : Nat) : Int) := bits_or_u64_nat a b ha hb
/-- Two words, shifted to the right by so many bits. -/
theorem shifted {P : Nat} {s : Nat} (hs : s ≤ 64) (hP : P < 2 ^ (64 + s)) :
    IntKind.u64.wrap ↑(BitVec.ofInt 64 (IntKind.u64.wrap (((P / 2 ^ 64 : Nat) : Int) * 2 ^ (64 - s))) ||| BitVec.ofInt 64 (Int.fdiv ((P % 2 ^ 64 : Nat) : Int) (2 ^ s))).toNat = ((P / 2 ^ s : Nat) : Int) := by
  have h1 : P / 2 ^ 64 < 2 ^ s := (Nat.div_lt_iff_lt_mul (Nat.pow_pos (by decide))).2 (by rw [← Nat.pow_add, Nat.add_comm]; exact hP)
  have h2 : P / 2 ^ 64 * 2 ^ (64 - s) < 2 ^ 64 := by
    have := Nat.mul_lt_mul_of_pos_right h1 (Nat.pow_pos (n := 64 - s) (show 0 < 2 by decide))
    rw [← Nat.pow_add, show s + (64 - s) = 64 by omega] at this
    exact this
  have h3 : P % 2 ^ 64 / 2 ^ s < 2 ^ (64 - s) := (Nat.div_lt_iff_lt_mul (Nat.pow_pos (by decide))).2 (by
    rw [← Nat.pow_add, show 64 - s + s = 64 by omega]; exact Nat.mod_lt _ (Nat.pow_pos (by decide)))
  have h4 : P % 2 ^ 64 / 2 ^ s < 2 ^ 64 := Nat.lt_of_lt_of_le h3 (Nat.pow_le_pow_right (by decide) (by omega))
  rw [shr_nat, two_pow, ← Int.natCast_mul, wUn (Nat.le_pred_of_lt h2), or_wrap h2 h4]
  congr 1
  rw [← Nat.shiftLeft_eq, ← Nat.shiftLeft_add_eq_or_of_lt h3, Nat.shiftLeft_eq]
  have e : P = P / 2 ^ 64 * 2 ^ (64 - s) * 2 ^ s + P % 2 ^ 64 := by
    rw [Nat.mul_assoc, ← Nat.pow_add, show 64 - s + s = 64 by omega]
    exact (Nat.div_add_mod' P _).symm
  conv => rhs; rw [e]
  rw [Nat.add_comm, Nat.add_comm _ (P % 2 ^ 64), Nat.add_mul_div_right _ _ (Nat.pow_pos (by decide))]
/-- What is taken off a wait: of the spread's part a lot's part. -/
def offF (w spread lot : Nat) : Nat := w * spread / 2 ^ 8 * lot / 2 ^ 32
theorem mul_nat (n : Nat) {x y : Nat} (hx : x < 2 ^ 64) (hy : y < 2 ^ 64) : f78 n x y = some (((x * y / 2 ^ 64 : Nat) : Int), ((x * y % 2 ^ 64 : Nat) : Int)) := by
  have e : ((2 ^ 64 : Nat) : Int) = 18446744073709551616 := by decide
  rw [mul_is n (x := x) (y := y) ⟨by omega, by omega⟩ ⟨by omega, by omega⟩, Int.natCast_ediv, Int.natCast_emod, Int.natCast_mul, e]
theorem off_go (n : Nat) {w spread M : Nat} (hw : w < 2 ^ 63) (hs : spread ≤ 256) {a seed : Int} (hM : f29 n (IntKind.u64.wrap (seed + IntKind.u64.wrap a)) = some (M : Int)) (hM2 : M < 2 ^ 64) :
    f76 n w spread a seed = some (offF w spread (M / 2 ^ 32) : Int) ∧ offF w spread (M / 2 ^ 32) ≤ w := by
  have h1 : w * spread ≤ w * 256 := Nat.mul_le_mul_left _ hs
  have h2 : w * spread / 2 ^ 8 ≤ w := by omega
  have h3 : w * spread / 2 ^ 8 * (M / 2 ^ 32) ≤ w * (M / 2 ^ 32) := Nat.mul_le_mul_right _ h2
  have h4 : w * (M / 2 ^ 32) ≤ w * 4294967295 := Nat.mul_le_mul_left _ (by omega)
  have h5 : offF w spread (M / 2 ^ 32) ≤ w := by unfold offF; omega
  refine ⟨?_, h5⟩
  rw [f76_eq, wUn (a := w) (by omega), wUn (a := spread) (by omega), mul_nat n (by omega) (by omega), hM, Option.bind_some, Option.bind_some]
  have p1 : w * spread < 4722366482869645213696 := by omega
  have p2 : w * spread / 2 ^ 8 * (M / 2 ^ 32) < 79228162514264337593543950336 := by omega
  have e1 := shifted (P := w * spread) (s := 8) (by decide) (Nat.lt_of_lt_of_eq p1 (by decide))
  have e2 := shifted (P := w * spread / 2 ^ 8 * (M / 2 ^ 32)) (s := 32) (by decide) (Nat.lt_of_lt_of_eq p2 (by decide))
  rw [show 64 - 8 = 56 from rfl] at e1
  rw [show 64 - 32 = 32 from rfl] at e2
  rw [e1, shr_nat M 32, mul_nat n (by omega) (by omega), Option.bind_some, e2]
  have : w * spread / 2 ^ 8 * (M / 2 ^ 32) / 2 ^ 32 ≤ w := h5
  rw [wI (by omega) (by omega)]
  rfl
end Go.Proofs.Ytnlnfmakcnadlaa
