/- A number falls to the same part, and its bits are laid over one another alike. -/
import Derived.Test.YtaakmifjkobkgaaDoorLMix
namespace Go.Proofs.YtaakmifjkobkgaaDoor
open Go.Rf
theorem fd32 {x : Int} (_ : u64 x) : x.fdiv (2 ^ (32 : Nat)) = x / 4294967296 := by
  rw [Int.fdiv_eq_ediv_of_nonneg _ (by decide)]
  rfl
theorem fd32w (z : Int) : (IntKind.u64.wrap z).fdiv (2 ^ (32 : Nat)) = IntKind.u64.wrap z / 4294967296 := fd32 (wU_u64 z)
theorem td32 {x : Int} (h : u64 x) : IntKind.u64.wrap (x.tdiv 4294967296) = x / 4294967296 := IntWalk.u64_quo x _ ⟨h.1, h.2, by decide⟩
theorem td32w (z : Int) : IntKind.u64.wrap ((IntKind.u64.wrap z).tdiv 4294967296) = IntKind.u64.wrap z / 4294967296 := td32 (wU_u64 z)
theorem tm32 {x : Int} (h : u64 x) : x.tmod 4294967296 = x % 4294967296 := Int.tmod_eq_emod_of_nonneg h.1
theorem tm32w (z : Int) : (IntKind.u64.wrap z).tmod 4294967296 = IntKind.u64.wrap z % 4294967296 := tm32 (wU_u64 z)
theorem an32 {x : Int} (h : u64 x) : IntKind.u64.wrap ↑(BitVec.ofInt 64 x &&& BitVec.ofInt 64 4294967295).toNat = x % 4294967296 := by
  obtain ⟨a, rfl⟩ := Int.eq_ofNat_of_zero_le h.1
  have ha : a < 18446744073709551616 := by have := h.2; omega
  have := bits_and_u64_nat a 4294967295 ha (by decide)
  have e : bits .and .u64 (a : Int) ((4294967295 : Nat) : Int) = IntKind.u64.wrap ↑(BitVec.ofInt 64 (a : Int) &&& BitVec.ofInt 64 4294967295).toNat := rfl
  rw [← e, this, show (4294967295 : Nat) = 2 ^ 32 - 1 from rfl, Nat.and_two_pow_sub_one_eq_mod]
  omega
theorem an32w (z : Int) : IntKind.u64.wrap ↑(BitVec.ofInt 64 (IntKind.u64.wrap z) &&& BitVec.ofInt 64 4294967295).toNat = IntKind.u64.wrap z % 4294967296 := an32 (wU_u64 z)
/-- The high word of a product, by halves. -/
def hiF (p q r s : Int) : Int := p + (q + s / 4294967296) / 4294967296 + ((q + s / 4294967296) % 4294967296 + r) / 4294967296
theorem half_prod {a b : Int} (ha : 0 ≤ a ∧ a ≤ 4294967295) (hb : 0 ≤ b ∧ b ≤ 4294967295) : 0 ≤ a * b ∧ a * b ≤ 18446744065119617025 := by
  refine ⟨Int.mul_nonneg ha.1 hb.1, ?_⟩
  have h1 : a * b ≤ 4294967295 * b := Int.mul_le_mul_of_nonneg_right ha.2 hb.1
  omega
theorem halves {x : Int} (h : u64 x) : (0 ≤ x / 4294967296 ∧ x / 4294967296 ≤ 4294967295) ∧ 0 ≤ x % 4294967296 ∧ x % 4294967296 ≤ 4294967295 := by
  have := h.1; have := h.2
  omega
theorem high_lt {x y : Int} (hx : u64 x) (hy : u64 y) (h1 : 1 ≤ y) :
    0 ≤ hiF (x / 4294967296 * (y / 4294967296)) (x / 4294967296 * (y % 4294967296)) (x % 4294967296 * (y / 4294967296)) (x % 4294967296 * (y % 4294967296)) ∧
    hiF (x / 4294967296 * (y / 4294967296)) (x / 4294967296 * (y % 4294967296)) (x % 4294967296 * (y / 4294967296)) (x % 4294967296 * (y % 4294967296)) < y := by
  have e : x * y = 18446744073709551616 * (x / 4294967296 * (y / 4294967296)) + 4294967296 * (x / 4294967296 * (y % 4294967296)) + 4294967296 * (x % 4294967296 * (y / 4294967296)) + x % 4294967296 * (y % 4294967296) := by
    have ex := Int.mul_ediv_add_emod x 4294967296
    have ey := Int.mul_ediv_add_emod y 4294967296
    generalize x / 4294967296 = a at ex ⊢
    generalize x % 4294967296 = b at ex ⊢
    generalize y / 4294967296 = c at ey ⊢
    generalize y % 4294967296 = d at ey ⊢
    subst ex; subst ey
    grind
  have hxy : x * y ≤ 18446744073709551615 * y := Int.mul_le_mul_of_nonneg_right hx.2 hy.1
  obtain ⟨hx1, hx0⟩ := halves hx
  obtain ⟨hy1, hy0⟩ := halves hy
  have p1 := half_prod hx1 hy1
  have p2 := half_prod hx1 hy0
  have p3 := half_prod hx0 hy1
  have p4 := half_prod hx0 hy0
  generalize x / 4294967296 * (y / 4294967296) = p at *
  generalize x / 4294967296 * (y % 4294967296) = q at *
  generalize x % 4294967296 * (y / 4294967296) = r at *
  generalize x % 4294967296 * (y % 4294967296) = s at *
  generalize x * y = z at *
  unfold hiF
  omega
theorem mul_go (n : Nat) {x y : Int} (hx : u64 x) (hy : u64 y) :
    ∃ l, f40 n x y = some (hiF (x / 4294967296 * (y / 4294967296)) (x / 4294967296 * (y % 4294967296)) (x % 4294967296 * (y / 4294967296)) (x % 4294967296 * (y % 4294967296)), l) := by
  obtain ⟨hx1, hx0⟩ := halves hx
  obtain ⟨hy1, hy0⟩ := halves hy
  have p1 := half_prod hx1 hy1
  have p2 := half_prod hx1 hy0
  have p3 := half_prod hx0 hy1
  have p4 := half_prod hx0 hy0
  refine ⟨IntKind.u64.wrap (x * y), ?_⟩
  rw [f40_eq]
  simp only [fd32 hx, fd32 hy, an32 hx, an32 hy, fd32w, an32w]
  generalize x / 4294967296 * (y / 4294967296) = p at *
  generalize x / 4294967296 * (y % 4294967296) = q at *
  generalize x % 4294967296 * (y / 4294967296) = r at *
  generalize x % 4294967296 * (y % 4294967296) = s at *
  congr 2
  simp only [wU_mod]
  unfold hiF
  omega
theorem mul_ref (n : Nat) {x y : Int} (hx : u64 x) (hy : u64 y) :
    f41 n x y = some (hiF (x / 4294967296 * (y / 4294967296)) (x / 4294967296 * (y % 4294967296)) (x % 4294967296 * (y / 4294967296)) (x % 4294967296 * (y % 4294967296))) := by
  obtain ⟨hx1, hx0⟩ := halves hx
  obtain ⟨hy1, hy0⟩ := halves hy
  have p1 := half_prod hx1 hy1
  have p2 := half_prod hx1 hy0
  have p3 := half_prod hx0 hy1
  have p4 := half_prod hx0 hy0
  rw [f41_eq]
  simp only [td32 hx, td32 hy, tm32 hx, tm32 hy, td32w, tm32w]
  generalize x / 4294967296 * (y / 4294967296) = p at *
  generalize x / 4294967296 * (y % 4294967296) = q at *
  generalize x % 4294967296 * (y / 4294967296) = r at *
  generalize x % 4294967296 * (y % 4294967296) = s at *
  congr 1
  simp only [wU_mod]
  unfold hiF
  omega
theorem part_alike (n : Nat) {x parts : Int} (hx : u64 x) (hp : i64 parts) :
    ∃ a e, f25 n x parts = some (a, e) ∧ f27 n x parts = some (a, e) ∧ (1 ≤ parts → 0 ≤ a ∧ a < parts) := by
  rw [f25_eq, f27_eq]
  by_cases h : parts < 1
  · rw [decide_eq_true h]
    exact ⟨0, 1, rfl, rfl, fun h' => by omega⟩
  · rw [decide_eq_false h, wU (n := parts) (by omega) (by have := hp.2; omega)]
    have hy : u64 parts := ⟨by omega, by have := hp.2; omega⟩
    obtain ⟨l, hl⟩ := mul_go n hx hy
    have hb := high_lt hx hy (by omega)
    rw [hl, mul_ref n hx hy]
    generalize hiF _ _ _ _ = k at hb
    simp only [cond_false, Option.bind_some]
    rw [wI (by omega) (by have := hp.2; omega)]
    exact ⟨k, 0, rfl, rfl, fun _ => hb⟩
end Go.Proofs.YtaakmifjkobkgaaDoor
