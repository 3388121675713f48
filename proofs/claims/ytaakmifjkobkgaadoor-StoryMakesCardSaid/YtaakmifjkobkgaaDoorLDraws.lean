/- Numbers are drawn and shuffled alike: the plain law StoryDraws. -/
import Derived.Test.YtaakmifjkobkgaaDoorLPart
import Derived.Test.YtaakmifjkobkgaaDoorLNum
import Derived.Test.YtaakmifjkobkgaaDoorLNames
namespace Go.Proofs.YtaakmifjkobkgaaDoor
open Go.Rf
theorem draw_alike (n : Nat) {p : Int} (hp : i64 p) (i seed : Int) : ∃ k, f12 n p i seed = some k ∧ f13 n p i seed = some k ∧ (1 ≤ p → 0 ≤ k ∧ k < p) := by
  have hs := wU_u64 (seed + IntKind.u64.wrap (IntKind.u64.wrap i * 11400714819323198485))
  rw [f12_eq, f13_eq]
  generalize IntKind.u64.wrap (seed + IntKind.u64.wrap (IntKind.u64.wrap i * 11400714819323198485)) = x at hs
  rw [mix_go, mix_ref, mix_same hs]
  simp only [Option.bind_some]
  have hm : u64 (mixF x) := xs_u64 _ _
  obtain ⟨a, e, h1, h2, h3⟩ := part_alike n hm hp
  by_cases h : p < 1
  · rw [decide_eq_true h]
    rw [f25_eq, decide_eq_true h] at h1
    rw [f25_eq, decide_eq_true h]
    exact ⟨0, rfl, rfl, fun h' => by omega⟩
  · rw [decide_eq_false h, h1, h2]
    exact ⟨a, rfl, rfl, h3⟩
/-- The numbers below k, and zeros behind them. -/
def upTo (a k : Nat) : List Int := (List.range k).map Int.ofNat ++ List.replicate (a - k) 0
theorem upTo_length {a k : Nat} (h : k ≤ a) : (upTo a k).length = a := by
  unfold upTo
  simp
  omega
theorem upTo_set {a k : Nat} (h : k < a) : (upTo a k).set k (k : Int) = upTo a (k + 1) := by
  unfold upTo
  rw [List.set_append, if_neg (by simp), List.length_map, List.length_range, Nat.sub_self, show a - k = (a - (k + 1)) + 1 by omega, List.replicate_succ, List.set_cons_zero, List.range_succ, List.map_append, List.append_assoc]
  rfl
theorem fill_go (n a : Nat) (ha : a ≤ 65536) (seed : Int) (m : Nat) : ∀ j k, k + j = a → f10_10 n (m + (j + 1)) a seed a k (upTo a k) = f10_20 n m seed (IntKind.i64.wrap ((a : Int) - 1)) (upTo a a) := by
  intro j
  induction j with
  | zero =>
    intro k hk
    obtain rfl : k = a := by omega
    rw [f10_10_eq, decide_eq_false (by omega)]
    rfl
  | succ j ih =>
    intro k hk
    rw [show m + (j + 1 + 1) = (m + (j + 1)) + 1 by omega, f10_10_eq, decide_eq_true (by omega), decide_eq_true (by rw [upTo_length (by omega)]; omega)]
    simp only [cond_true]
    rw [wI (by omega) (by omega), show ((k : Int)).toNat = k from rfl, upTo_set (by omega), show ((k : Int) + 1) = ((k + 1 : Nat) : Int) by omega]
    exact ih (k + 1) (by omega)
theorem fill_ref (n a : Nat) (ha : a ≤ 65536) (seed : Int) (m : Nat) : ∀ j k, k + j = a → f11_10 n (m + (j + 1)) a seed k ((List.range k).map Int.ofNat) = f11_18 n m seed (IntKind.i64.wrap ((a : Int) - 1)) ((List.range a).map Int.ofNat) := by
  intro j
  induction j with
  | zero =>
    intro k hk
    obtain rfl : k = a := by omega
    rw [f11_10_eq, decide_eq_false (by omega)]
    rfl
  | succ j ih =>
    intro k hk
    rw [show m + (j + 1 + 1) = (m + (j + 1)) + 1 by omega, f11_10_eq, decide_eq_true (by omega), decide_eq_true (by
      rw [List.length_map, List.length_range, List.length_singleton]
      unfold maxBytes
      omega)]
    simp only [cond_true]
    rw [wI (by omega) (by omega), show ((k : Int) + 1) = ((k + 1 : Nat) : Int) by omega, ← ih (k + 1) (by omega), List.range_succ, List.map_append]
    rfl
theorem swap_alike (n : Nat) (seed : Int) : ∀ (i m m' : Nat) (l : List Int), i < l.length → l.length ≤ 65536 → i < m → i < m' → ∃ r, f10_20 n m seed i l = some r ∧ f11_18 n m' seed i l = some r ∧ r.length = l.length := by
  intro i
  induction i with
  | zero =>
    intro m m' l _ _ hm hm'
    obtain ⟨p, rfl⟩ : ∃ p, m = p + 1 := ⟨m - 1, by omega⟩
    obtain ⟨p', rfl⟩ : ∃ p, m' = p + 1 := ⟨m' - 1, by omega⟩
    rw [f10_20_eq, f11_18_eq, decide_eq_false (show ¬ ((0 : Nat) : Int) > 0 by omega), decide_eq_false (show ¬ ((0 : Nat) : Int) ≥ 1 by omega)]
    exact ⟨l, rfl, rfl, rfl⟩
  | succ i ih =>
    intro m m' l hi hl hm hm'
    obtain ⟨p, rfl⟩ : ∃ p, m = p + 1 := ⟨m - 1, by omega⟩
    obtain ⟨p', rfl⟩ : ∃ p, m' = p + 1 := ⟨m' - 1, by omega⟩
    rw [f10_20_eq, f11_18_eq, decide_eq_true (show ((i + 1 : Nat) : Int) > 0 by omega), decide_eq_true (show ((i + 1 : Nat) : Int) ≥ 1 by omega)]
    have w1 : IntKind.i64.wrap (((i + 1 : Nat) : Int) + 1) = ((i + 2 : Nat) : Int) := by rw [wI (by omega) (by omega)]; omega
    have w2 : IntKind.i64.wrap (((i + 1 : Nat) : Int) - 1) = (i : Int) := by rw [wI (by omega) (by omega)]; omega
    rw [w1, w2]
    obtain ⟨k, h1, h2, h3⟩ := draw_alike n (p := ((i + 2 : Nat) : Int)) ⟨by omega, by omega⟩ ((i + 1 : Nat) : Int) seed
    have h3 := h3 (by omega)
    rw [h1, h2]
    simp only [Option.bind_some, cond_true]
    rw [decide_eq_true (show 0 ≤ k ∧ k < ↑l.length by omega), decide_eq_true (show (0 : Int) ≤ ((i + 1 : Nat) : Int) ∧ ((i + 1 : Nat) : Int) < ↑l.length by omega), decide_eq_true (by rw [List.length_set]; omega)]
    simp only [cond_true]
    obtain ⟨r, g1, g2, g3⟩ := ih p p' ((l.set ((i + 1 : Nat) : Int).toNat (l.getD (Int.toNat k) 0)).set (Int.toNat k) (l.getD ((i + 1 : Nat) : Int).toNat 0)) (by rw [List.length_set, List.length_set]; omega) (by rw [List.length_set, List.length_set]; omega) (by omega) (by omega)
    exact ⟨r, g1, g2, by rw [g3, List.length_set, List.length_set]⟩
theorem shuffle_alike (n : Nat) (hn : 140000 ≤ n) (a seed : Int) : ∃ r, f10 n a seed = some r ∧ f11 n a seed = some r ∧ r.length ≤ 65536 := by
  rw [f10_eq, f11_eq]
  by_cases h1 : a < 1
  · rw [decide_eq_true h1]
    exact ⟨[], rfl, rfl, by simp⟩
  rw [decide_eq_false h1]
  by_cases h2 : a > 65536
  · rw [decide_eq_true h2]
    exact ⟨[], rfl, rfl, by simp⟩
  rw [decide_eq_false h2]
  obtain ⟨a, rfl⟩ := Int.eq_ofNat_of_zero_le (show 0 ≤ a by omega)
  simp only [Int.toNat_natCast] at *
  rw [decide_eq_true (by unfold maxBytes; omega)]
  simp only [cond_false, cond_true]
  obtain ⟨m, hm⟩ : ∃ m, n = m + (a + 1) := ⟨n - (a + 1), by omega⟩
  have g := fill_go n a (by omega) seed m a 0 (by omega)
  have r := fill_ref n a (by omega) seed m a 0 (by omega)
  rw [← hm] at g r
  have e0 : upTo a 0 = List.replicate a (0 : Int) := by simp [upTo]
  have e1 : upTo a a = (List.range a).map Int.ofNat := by simp [upTo]
  rw [e0, e1] at g
  have r : f11_10 n n a seed 0 [] = _ := r
  rw [List.length_replicate, r]
  have g : f10_10 n n a seed a 0 (List.replicate a 0) = _ := g
  rw [g, wI (by omega) (by omega), show ((a : Int) - 1) = ((a - 1 : Nat) : Int) by omega]
  obtain ⟨r, g1, g2, g3⟩ := swap_alike n seed (a - 1) m m ((List.range a).map Int.ofNat) (by simp; omega) (by simp; omega) (by omega) (by omega)
  exact ⟨r, g1, g2, by rw [g3]; simp; omega⟩
theorem same4 (n : Nat) : ∀ (j m k : Nat) (l : List Int), k + j = l.length → l.length ≤ 140000 → f4_14 n (m + (j + 1)) l l k = some true := by
  intro j
  induction j with
  | zero =>
    intro m k l hk _
    rw [show m + (0 + 1) = m + 1 by omega, f4_14_eq, decide_eq_false (by omega)]
    rfl
  | succ j ih =>
    intro m k l hk hl
    rw [show m + (j + 1 + 1) = (m + (j + 1)) + 1 by omega, f4_14_eq, decide_eq_true (by omega), decide_eq_true (by omega)]
    simp only [cond_true, bne_self_eq_false, cond_false]
    rw [wI (by omega) (by omega), show ((k : Int) + 1) = ((k + 1 : Nat) : Int) by omega]
    exact ih m (k + 1) l (by omega) hl
theorem key_refl (n : Nat) (k : Int × ByteArray) : f14 n k k = some true := by
  rw [f14_eq, beq_self_eq_true, beq_self_eq_true]
  rfl
theorem body (n : Nat) (hn : 140000 ≤ n) {a i : Int} (ha : i64 a) (hi : i64 i) (seed : Int) : ((f10 n a seed).bind fun r17 =>
   (f11 n a seed).bind fun r18 =>
   (f8 n).bind fun r19 =>
   bif !r19 then
    some false
   else
    (f12 n a i seed).bind fun r20 =>
    (f13 n a i seed).bind fun r21 =>
    bif r20 != r21 then
     some false
    else
     bif (↑(List.length r17) : Int) != ↑(List.length r18) then
      some false
     else
      (f15L n i).bind fun r22 =>
      (f16 n i).bind fun r23 =>
      (f14 n r22 r23).bind fun r24 =>
      bif !r24 then
       some false
      else
       f4_14 n n r17 r18 (0 : Int)) = some true := by
  obtain ⟨r, h1, h2, h3⟩ := shuffle_alike n hn a seed
  obtain ⟨k, h4, h5, _⟩ := draw_alike n ha i seed
  obtain ⟨q, h6, h7⟩ := key_alike n (by omega) hi
  have h8 : f8 n = some true := by
    have := awake_true (n - 6)
    rw [show n - 6 + 6 = n by omega] at this
    exact this
  rw [h1, h2, h8, h4, h5, h6, h7]
  simp only [Option.bind_some, key_refl, bne_self_eq_false, Bool.not_true, cond_false]
  obtain ⟨m, hm⟩ : ∃ m, n = m + (r.length + 1) := ⟨n - (r.length + 1), by omega⟩
  have := same4 n r.length m 0 r (by omega) (by omega)
  rw [← hm] at this
  exact this
theorem draws_true (n : Nat) (hn : 140000 ≤ n) {a i : Int} (ha : i64 a) (hi : i64 i) (seed : Int) : f4 n a i seed = some true := by
  rw [f4_eq]
  by_cases h1 : a > 300
  · rw [decide_eq_true h1]
    by_cases h2 : a ≤ 65536
    · rw [decide_eq_true h2, cond_true, cond_true]
      have h3 : a.tmod 300 = a % 300 := Int.tmod_eq_emod_of_nonneg (by omega)
      exact body n hn (a := a.tmod 300) ⟨by omega, by omega⟩ hi seed
    · rw [decide_eq_false h2, cond_true, cond_false]
      exact body n hn ha hi seed
  · rw [decide_eq_false h1, cond_false]
    exact body n hn ha hi seed
end Go.Proofs.YtaakmifjkobkgaaDoor
