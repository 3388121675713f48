/- A product over a power of two, digit by digit. -/
import Derived.Test.YtnlnfmakcnadlaaLWait
namespace Go.Proofs.Ytnlnfmakcnadlaa
open Go.Rf
/-- The number that eight digits to the base 65536 stand for. -/
def val8 : List Nat → Nat
  | [] => 0
  | d :: l => d + 65536 * val8 l
def casts (l : List Nat) : List Int := l.map fun x : Nat => (x : Int)
theorem casts_getD (l : List Nat) (i : Nat) : (casts l).getD i 0 = ((l.getD i 0 : Nat) : Int) := by
  unfold casts
  by_cases h : i < l.length
  · simp [h]
  · simp [h]
theorem casts_set (l : List Nat) (i : Nat) (x : Nat) : (casts l).set i (x : Int) = casts (l.set i x) := by
  unfold casts
  rw [List.map_set]
/-- A digit is put in another one's place. -/
theorem val8_set : ∀ (l : List Nat) (i x : Nat), i < l.length → val8 (l.set i x) + l.getD i 0 * 65536 ^ i = val8 l + x * 65536 ^ i
  | d :: l, 0, x, _ => by simp [val8]; omega
  | d :: l, i + 1, x, h => by
    have := val8_set l i x (by simpa using h)
    simp only [List.set_cons_succ, val8, List.getD_cons_succ, Nat.pow_succ]
    have e1 : l.getD i 0 * (65536 ^ i * 65536) = 65536 * (l.getD i 0 * 65536 ^ i) := by rw [← Nat.mul_assoc, Nat.mul_comm]
    have e2 : x * (65536 ^ i * 65536) = 65536 * (x * 65536 ^ i) := by rw [← Nat.mul_assoc, Nat.mul_comm]
    rw [e1, e2]
    omega
theorem val8_lt : ∀ (l : List Nat), (∀ x ∈ l, x < 65536) → val8 l < 65536 ^ l.length
  | [], _ => by simp [val8]
  | d :: l, h => by
    have h1 := val8_lt l (fun x hx => h x (by simp [hx]))
    have h2 := h d (by simp)
    simp only [val8, List.length_cons, Nat.pow_succ]
    omega
/-- A digit of the number. -/
theorem val8_digit : ∀ (l : List Nat) (i : Nat), (∀ x ∈ l, x < 65536) → val8 l / 65536 ^ i % 65536 = l.getD i 0
  | [], i, _ => by simp [val8]
  | d :: l, 0, h => by
    have := h d (by simp)
    simp only [val8, Nat.pow_zero, Nat.div_one, List.getD_cons_zero]
    omega
  | d :: l, i + 1, h => by
    have h1 := val8_digit l i (fun x hx => h x (by simp [hx]))
    have h2 := h d (by simp)
    rw [List.getD_cons_succ, ← h1, Nat.pow_succ, Nat.mul_comm, ← Nat.div_div_eq_div_mul, val8]
    congr 2
    omega
/-- One digit's product is added: what is carried goes on till nothing is left. -/
theorem carry_on {w t s i k : Int} (n : Nat) : ∀ (j at' m c : Nat) (l : List Nat), at' + j = 8 → j < m → l.length = 8 → (∀ x ∈ l, x < 65536) → c < 4294967296 → val8 l + c * 65536 ^ at' < 65536 ^ 8 →
    ∃ (m' : Nat) (l' : List Nat), m ≤ m' + j + 1 ∧ l'.length = 8 ∧ (∀ x ∈ l', x < 65536) ∧ val8 l' = val8 l + c * 65536 ^ at' ∧
      f77_24 n m w t s i k c at' (casts l) = f77_12 n m' w t s i (IntKind.i64.wrap (k + 1)) (casts l') := by
  intro j
  induction j with
  | zero =>
    intro at' m c l ha hm hl hd hc hv
    obtain ⟨m, rfl⟩ : ∃ q, m = q + 1 := ⟨m - 1, by omega⟩
    obtain rfl : at' = 8 := by omega
    have hc0 : c = 0 := by
      by_cases h : c = 0
      · exact h
      · exfalso
        have : 1 * 65536 ^ 8 ≤ c * 65536 ^ 8 := Nat.mul_le_mul_right _ (by omega)
        omega
    subst hc0
    exact ⟨m, l, by omega, hl, hd, by omega, by rw [f77_24_eq]; rfl⟩
  | succ j ih =>
    intro at' m c l ha hm hl hd hc hv
    obtain ⟨m, rfl⟩ : ∃ q, m = q + 1 := ⟨m - 1, by omega⟩
    by_cases h0 : c = 0
    · subst h0
      exact ⟨m, l, by omega, hl, hd, by omega, by rw [f77_24_eq]; rfl⟩
    · have hg : l.getD at' 0 < 65536 := by
        have : at' < l.length := by omega
        rw [List.getD_eq_getElem?_getD, List.getElem?_eq_getElem this]
        exact hd _ (List.getElem_mem this)
      rw [f77_24_eq, decide_eq_true (show (c : Int) > 0 by omega), decide_eq_true (show (at' : Int) < 8 by omega), decide_eq_true (show (0 : Int) ≤ (at' : Int) ∧ (at' : Int) < ((8 : Nat) : Int) by omega)]
      simp only [cond_true]
      rw [Int.toNat_natCast, casts_getD, ← Int.natCast_add, wUn (a := c + l.getD at' 0) (by omega), show (65536 : Int) = ((65536 : Nat) : Int) from rfl, ← Int.ofNat_tdiv, ← Int.ofNat_tmod, wUn (a := (c + l.getD at' 0) / 65536) (by omega), casts_set,
        wI (n := (at' : Int) + 1) (by omega) (by omega), show (at' : Int) + 1 = ((at' + 1 : Nat) : Int) by omega]
      have hset := val8_set l at' ((c + l.getD at' 0) % 65536) (by omega)
      have hp : (c + l.getD at' 0) / 65536 * 65536 ^ (at' + 1) + (c + l.getD at' 0) % 65536 * 65536 ^ at' = c * 65536 ^ at' + l.getD at' 0 * 65536 ^ at' := by
        rw [Nat.pow_succ, ← Nat.add_mul, Nat.mul_comm (65536 ^ at') 65536, ← Nat.mul_assoc, ← Nat.add_mul, Nat.div_add_mod']
      obtain ⟨m', l', h1, h2, h3, h4, h5⟩ := ih (at' + 1) m ((c + l.getD at' 0) / 65536) (l.set at' ((c + l.getD at' 0) % 65536)) (by omega) (by omega) (by simpa using hl)
        (fun x hx => by
          rcases List.mem_or_eq_of_mem_set hx with hx | hx
          · exact hd x hx
          · omega) (by omega) (by omega)
      exact ⟨m', l', by omega, h2, h3, by omega, h5⟩
end Go.Proofs.Ytnlnfmakcnadlaa
