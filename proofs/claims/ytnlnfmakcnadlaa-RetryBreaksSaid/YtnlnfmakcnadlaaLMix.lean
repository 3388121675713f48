/- Numbers and texts are mixed alike; unlike numbers stay unlike. -/
import Derived.Test.YtnlnfmakcnadlaaLMore
namespace Go.Proofs.Ytnlnfmakcnadlaa
open Go.Rf
def xs (x : Int) (k : Nat) : Int := IntKind.u64.wrap ↑(BitVec.ofInt 64 x ^^^ BitVec.ofInt 64 (x.fdiv (2 ^ k))).toNat
def ml (x c : Int) : Int := IntKind.u64.wrap (x * c)
def mixF (x : Int) : Int := xs (ml (xs (ml (xs x 30) 13787848793156543929) 27) 10723151780598845931) 31
def xr (x d : Int) : Int := IntKind.u64.wrap ↑(BitVec.ofInt 64 x ^^^ BitVec.ofInt 64 (IntKind.u64.wrap (x.tdiv d))).toNat
def mixR (x : Int) : Int := xr (ml (xr (ml (xr x 1073741824) 13787848793156543929) 134217728) 10723151780598845931) 2147483648
theorem mix_go (n : Nat) (x : Int) : f29 n x = some (mixF x) := by unfold mixF xs ml; exact f29_eq n x
theorem mix_ref (n : Nat) (x : Int) : f30 n x = some (mixR x) := by unfold mixR xr ml; exact f30_eq n x
theorem xs_u64 (x : Int) (k : Nat) : u64 (xs x k) := wU_u64 _
theorem ml_u64 (x c : Int) : u64 (ml x c) := wU_u64 _
theorem xs_xr {x : Int} (h : u64 x) (k : Nat) (d : Int) (e : d = 2 ^ k) (hd : 1 ≤ d) : xr x d = xs x k := by
  unfold xs xr
  rw [← e, IntWalk.u64_quo x d ⟨h.1, h.2, hd⟩, Int.fdiv_eq_ediv_of_nonneg _ (by omega)]
theorem mix_same {x : Int} (h : u64 x) : mixR x = mixF x := by
  unfold mixR mixF
  rw [xs_xr (ml_u64 _ _) 31 _ (by decide) (by decide), xs_xr (ml_u64 _ _) 27 _ (by decide) (by decide), xs_xr h 30 _ (by decide) (by decide)]
theorem ofInt_toNat {x : Int} (h : u64 x) : (BitVec.ofInt 64 x).toNat = x.toNat := by
  rw [BitVec.toNat_ofInt]
  congr 1
  have := h.1; have := h.2
  omega
theorem xs_bv {x : Int} (h : u64 x) (k : Nat) : BitVec.ofInt 64 (xs x k) = BitVec.ofInt 64 x ^^^ (BitVec.ofInt 64 x >>> k) := by
  have e : BitVec.ofInt 64 (x.fdiv (2 ^ k)) = BitVec.ofInt 64 x >>> k := by
    apply BitVec.eq_of_toNat_eq
    have hk : (0 : Int) < 2 ^ k := Int.pow_pos (by decide)
    rw [Int.fdiv_eq_ediv_of_nonneg _ (by omega)]
    have h0 : 0 ≤ x / 2 ^ k := Int.ediv_nonneg h.1 (by omega)
    have h1 : x / 2 ^ k ≤ x := Int.ediv_le_self _ h.1
    rw [ofInt_toNat ⟨h0, by have := h.2; omega⟩, BitVec.toNat_ushiftRight, ofInt_toNat h, Nat.shiftRight_eq_div_pow]
    obtain ⟨a, rfl⟩ := Int.eq_ofNat_of_zero_le h.1
    have : ((2 : Int) ^ k) = ((2 ^ k : Nat) : Int) := by simp
    rw [this, ← Int.natCast_ediv, Int.toNat_natCast, Int.toNat_natCast]
  unfold xs
  rw [e]
  generalize (BitVec.ofInt 64 x ^^^ BitVec.ofInt 64 x >>> k) = z
  apply BitVec.eq_of_toNat_eq
  have hz := z.isLt
  rw [wU (by omega) (by omega), ofInt_toNat ⟨by omega, by omega⟩, Int.toNat_natCast]
theorem shift_inj {k : Nat} (hk : 0 < k) {X Y : BitVec 64} (h : X ^^^ (X >>> k) = Y ^^^ (Y >>> k)) : X = Y := by
  have key : ∀ d i, 64 - i ≤ d → X.getLsbD i = Y.getLsbD i := by
    intro d
    induction d with
    | zero => intro i hi; rw [BitVec.getLsbD_of_ge _ _ (by omega), BitVec.getLsbD_of_ge _ _ (by omega)]
    | succ d ih =>
      intro i hi
      have h1 := congrArg (fun Z => BitVec.getLsbD Z i) h
      simp only [BitVec.getLsbD_xor, BitVec.getLsbD_ushiftRight] at h1
      rw [ih (k + i) (by omega)] at h1
      generalize X.getLsbD i = a at h1 ⊢
      generalize Y.getLsbD i = b at h1 ⊢
      generalize Y.getLsbD (k + i) = c at h1
      revert h1
      cases a <;> cases b <;> cases c <;> decide
  apply BitVec.eq_of_getLsbD_eq
  intro i hi
  exact key 64 i (by omega)
theorem xs_inj {x y : Int} (hx : u64 x) (hy : u64 y) {k : Nat} (hk : 0 < k) (h : xs x k = xs y k) : x = y := by
  have h1 := congrArg (BitVec.ofInt 64) h
  rw [xs_bv hx, xs_bv hy] at h1
  have h2 := congrArg BitVec.toNat (shift_inj hk h1)
  rw [ofInt_toNat hx, ofInt_toNat hy] at h2
  have := hx.1; have := hy.1
  omega
theorem ml_inj {c d : Int} (hc : c * d % 18446744073709551616 = 1) {x y : Int} (hx : u64 x) (hy : u64 y) (h : ml x c = ml y c) : x = y := by
  unfold ml at h
  simp only [wU_mod] at h
  have key : ∀ z : Int, u64 z → (z * c % 18446744073709551616) * d % 18446744073709551616 = z := by
    intro z hz
    rw [Int.mul_emod, Int.emod_emod_of_dvd _ (Int.dvd_refl _), ← Int.mul_emod, Int.mul_assoc, Int.mul_emod, hc, Int.mul_one, Int.emod_emod_of_dvd _ (Int.dvd_refl _)]
    exact Int.emod_eq_of_lt hz.1 (by have := hz.2; omega)
  rw [← key x hx, ← key y hy, h]
theorem mix_inj {x y : Int} (hx : u64 x) (hy : u64 y) (h : mixF x = mixF y) : x = y := by
  unfold mixF at h
  have h1 := xs_inj (ml_u64 _ _) (ml_u64 _ _) (by decide) h
  have h2 := ml_inj (d := 3573116690164977347) (by decide +kernel) (xs_u64 _ _) (xs_u64 _ _) h1
  have h3 := xs_inj (ml_u64 _ _) (ml_u64 _ _) (by decide) h2
  have h4 := ml_inj (d := 10871156337175269513) (by decide +kernel) (xs_u64 _ _) (xs_u64 _ _) h3
  exact xs_inj hx hy (by decide) h4
theorem hash_loop {s : ByteArray} (hs : s.size ≤ maxLen) (n : Nat) : ∀ (k : Nat) (i : Nat) (m : Nat) (h : Int), s.size - i = k → i ≤ s.size → k < m → u64 h →
    f31_6 n m s h s.size i = f32_6 n m s h i ∧ ∃ r, f31_6 n m s h s.size i = some r := by
  rw [maxLen_eq] at hs
  intro k
  induction k with
  | zero =>
    intro i m h hk hi hm hh
    obtain ⟨m, rfl⟩ : ∃ q, m = q + 1 := ⟨m - 1, by omega⟩
    have : i = s.size := by omega
    subst this
    rw [f31_6_eq, f32_6_eq]
    simp [mix_go, mix_ref, mix_same hh]
  | succ k ih =>
    intro i m h hk hi hm hh
    obtain ⟨m, rfl⟩ : ∃ q, m = q + 1 := ⟨m - 1, by omega⟩
    rw [f31_6_eq, f32_6_eq]
    rw [decide_eq_true (show (i : Int) < (s.size : Int) by omega), decide_eq_true (show (0 : Int) ≤ (i : Int) ∧ (i : Int) < (s.size : Int) by omega)]
    simp only [cond_true]
    rw [wI (n := (i : Int) + 1) (by omega) (by omega), show (i : Int) + 1 = ((i + 1 : Nat) : Int) by omega]
    exact ih (i + 1) m _ (by omega) (by omega) (by omega) (wU_u64 _)
theorem hash_alike {s : ByteArray} (hs : s.size ≤ maxLen) {n : Nat} (hn : s.size < n) (x : Int) : f31 n s x = f32 n s x ∧ ∃ r, f31 n s x = some r := by
  rw [f31_eq, f32_eq]
  exact hash_loop hs n s.size 0 n _ (by omega) (by omega) hn (wU_u64 _)
/-- What the numbers are mixed to, as a function of which nothing else is told. -/
theorem mix_facts : ∃ F : Int → Int, (∀ n x, f29 n x = some (F x)) ∧ (∀ n x, u64 x → f30 n x = some (F x)) ∧ ∀ x y, u64 x → u64 y → F x = F y → x = y :=
  ⟨mixF, mix_go, fun n x h => by rw [mix_ref, mix_same h], fun _ _ hx hy => mix_inj hx hy⟩
theorem ticks_mixes {n : Nat} {s : ByteArray} (hs : s.size ≤ maxLen) (hn : s.size < n) {x y : Int} (hx : u64 x) (hy : u64 y) : f5 (n + 4) x y s = some true := by
  obtain ⟨h1, r, hr⟩ := hash_alike hs (show s.size < n + 4 by omega) x
  obtain ⟨F, hF, hG, hI⟩ := mix_facts
  rw [f5_eq, awake_tick, hF, hG _ x hx, hF, ← h1, hr]
  simp only [Option.bind_some, cond_true, beq_self_eq_true]
  have : ((x == y) == (F x == F y)) = true := by
    by_cases h : x = y
    · rw [h]; simp
    · have h2 : F x ≠ F y := fun e => h (hI x y hx hy e)
      rw [beq_false_of_ne h, beq_false_of_ne h2]
      rfl
  rw [this]
  rfl
end Go.Proofs.Ytnlnfmakcnadlaa
