/- A failure as a text: both tell the same; unlike failures have unlike texts. -/
import Derived.Test.YthdddaikdiaijaaDoorLNum
namespace Go.Proofs.YthdddaikdiaijaaDoor
open Go.Rf Go.Lib
/-- A kind's word. -/
def wrd (k : Int) : Bytes :=
  if k = 1 then [108, 111, 97, 100] else if k = 2 then [112, 97, 110, 105, 99] else if k = 3 then [99, 97, 110, 99, 101, 108] else if k = 4 then [98, 117, 115, 121] else if k = 5 then [97, 98, 111, 114, 116] else [107, 105, 110, 100] ++ itoa k
abbrev none4 : Bytes := [110, 111, 110, 101]
def zeroF (f : Fail) : Prop := f.1 = 0 ∧ f.2.1 = 0 ∧ f.2.2 = 0
instance (f : Fail) : Decidable (zeroF f) := by unfold zeroF; exact inferInstance
/-- The text of a failure. -/
def txt (f : Fail) : Bytes := if zeroF f then none4 else jn [wrd f.1, itoa f.2.1, itoa f.2.2]
def i64F (f : Fail) : Prop := i64 f.1 ∧ i64 f.2.1 ∧ i64 f.2.2
theorem wrd_len {k : Int} (h : i64 k) : (wrd k).length ≤ 25 := by
  have := itoa_len h
  unfold wrd
  (repeat' split) <;> simp <;> omega
theorem itoa_nosp (v : Int) : (32 : UInt8) ∉ itoa v := by
  have hd : ∀ u : Nat, (32 : UInt8) ∉ decDigits u := fun u h => by
    have := dec_digs u 32 h
    unfold isDig at this
    simp at this
  unfold itoa
  split
  · intro h
    rcases List.mem_cons.1 h with h | h
    · cases h
    · exact hd _ h
  · exact hd _
theorem wrd_nosp (k : Int) : (32 : UInt8) ∉ wrd k := by
  unfold wrd
  have h := itoa_nosp k
  (repeat' split) <;> simp_all
theorem nosp3 (k c r : Int) : NoSp [wrd k, itoa c, itoa r] := by
  intro w hw
  simp only [List.mem_cons, List.not_mem_nil, or_false] at hw
  rcases hw with rfl | rfl | rfl
  · exact wrd_nosp k
  · exact itoa_nosp c
  · exact itoa_nosp r
theorem bs_map_inj : ∀ {a b : Ws}, a.map bs = b.map bs → a = b
  | [], [], _ => rfl
  | [], _ :: _, h => by cases h
  | _ :: _, [], h => by cases h
  | x :: a, y :: b, h => by
    simp only [List.map_cons, List.cons.injEq] at h
    rw [bs_inj h.1, bs_map_inj h.2]
theorem jn_inj {a b : Ws} (ha : a ≠ []) (hb : b ≠ []) (na : NoSp a) (nb : NoSp b) (h : jn a = jn b) : a = b := by
  apply bs_map_inj
  rw [← split_jn a ha na, ← split_jn b hb nb, h]
theorem wrd_other {k : Int} (h : k ≠ 1 ∧ k ≠ 2 ∧ k ≠ 3 ∧ k ≠ 4 ∧ k ≠ 5) : wrd k = 107 :: 105 :: 110 :: 100 :: itoa k := by
  unfold wrd
  rw [if_neg h.1, if_neg h.2.1, if_neg h.2.2.1, if_neg h.2.2.2.1, if_neg h.2.2.2.2]
  rfl
theorem wrd_inj {k j : Int} (hk : i64 k) (hj : i64 j) (h : wrd k = wrd j) : k = j := by
  rcases Classical.em (k = 1 ∨ k = 2 ∨ k = 3 ∨ k = 4 ∨ k = 5) with h1 | h1
  · rcases Classical.em (j = 1 ∨ j = 2 ∨ j = 3 ∨ j = 4 ∨ j = 5) with h2 | h2
    · rcases h1 with rfl | rfl | rfl | rfl | rfl <;> rcases h2 with rfl | rfl | rfl | rfl | rfl <;> first | rfl | (revert h; decide)
    · rw [wrd_other (k := j) (by omega)] at h
      rcases h1 with rfl | rfl | rfl | rfl | rfl <;> simp [wrd] at h
  · rcases Classical.em (j = 1 ∨ j = 2 ∨ j = 3 ∨ j = 4 ∨ j = 5) with h2 | h2
    · rw [wrd_other (k := k) (by omega)] at h
      rcases h2 with rfl | rfl | rfl | rfl | rfl <;> simp [wrd] at h
    · rw [wrd_other (k := k) (by omega), wrd_other (k := j) (by omega)] at h
      simp only [List.cons.injEq, true_and] at h
      exact itoa_inj hk hj h
theorem none_jn : none4 = jn [none4] := rfl
theorem none_ne (k c r : Int) : none4 ≠ jn [wrd k, itoa c, itoa r] := by
  intro h
  rw [none_jn] at h
  have := jn_inj (by simp) (by simp) (fun w hw => by rw [List.mem_singleton] at hw; subst hw; decide) (nosp3 k c r) h
  simp at this
theorem txt_inj {f g : Fail} (hf : i64F f) (hg : i64F g) (h : txt f = txt g) : f = g := by
  obtain ⟨k, c, r⟩ := f
  obtain ⟨k', c', r'⟩ := g
  unfold txt at h
  split at h
  · rename_i h1
    split at h
    · rename_i h2
      obtain ⟨a1, a2, a3⟩ := h1
      obtain ⟨b1, b2, b3⟩ := h2
      simp only at a1 a2 a3 b1 b2 b3
      rw [a1, a2, a3, b1, b2, b3]
    · exact (none_ne _ _ _ h).elim
  · split at h
    · exact (none_ne _ _ _ h.symm).elim
    · have := jn_inj (by simp) (by simp) (nosp3 _ _ _) (nosp3 _ _ _) h
      simp only [List.cons.injEq, and_true] at this
      have q1 : k = k' := wrd_inj hf.1 hg.1 this.1
      have q2 : c = c' := itoa_inj hf.2.1 hg.2.1 this.2.1
      have q3 : r = r' := itoa_inj hf.2.2 hg.2.2 this.2.2
      rw [q1, q2, q3]
theorem word_eq (n : Nat) {k : Int} (h : i64 k) : f33 n k = some (bs (wrd k)) := by
  rw [f33_eq]
  have hl := itoa_len h
  have e : f36L n k = some (bs (itoa k)) := by
    show itoaF k = _
    unfold itoaF
    rw [if_pos h]
    rfl
  rw [e]
  simp only [Option.bind_some]
  rw [bs_size, smallN (by omega)]
  rcases Classical.em (k = 1 ∨ k = 2 ∨ k = 3 ∨ k = 4 ∨ k = 5) with h1 | h1
  · rcases h1 with rfl | rfl | rfl | rfl | rfl <;> rfl
  · rw [wrd_other (by omega), eqF (show ¬ k = 1 by omega), eqF (show ¬ k = 2 by omega), eqF (show ¬ k = 3 by omega), eqF (show ¬ k = 4 by omega), eqF (show ¬ k = 5 by omega)]
    exact congrArg some (bs_append [107, 105, 110, 100] _)
theorem itoa_eq (n : Nat) {v : Int} (h : i64 v) : f36L n v = some (bs (itoa v)) := by
  show itoaF v = _
  unfold itoaF
  rw [if_pos h]
  rfl
theorem zero_test (f : Fail) : (f.1 == (0 : Int) && (f.2.1 == (0 : Int) && f.2.2 == (0 : Int))) = decide (zeroF f) := by
  rw [Bool.eq_iff_iff]
  constructor
  · intro h
    exact decide_eq_true (by simpa [zeroF] using h)
  · intro h
    have := of_decide_eq_true h
    simpa [zeroF] using this
theorem jn3 (a b c : Bytes) : jn [a, b, c] = a ++ (32 :: (b ++ (32 :: c))) := by simp [jn, tl]
theorem text_go (n : Nat) {f : Fail} (h : i64F f) : f26 n f = some (bs (txt f)) := by
  have hw := wrd_len h.1
  have hc := itoa_len h.2.1
  have hr := itoa_len h.2.2
  rw [f26_eq, zero_test]
  unfold txt
  by_cases hz : zeroF f
  · rw [decide_eq_true hz, if_pos hz]
    rfl
  · rw [decide_eq_false hz, if_neg hz, word_eq n h.1, itoa_eq n h.2.1, itoa_eq n h.2.2]
    simp only [Option.bind_some, cond_false]
    rw [show s26x1 = bs [32] from rfl]
    simp only [bs_append, bs_size]
    rw [smallN (by omega), smallN (by simp; omega), smallN (by simp; omega), smallN (by simp; omega), jn3]
    simp only [cond_false]
    simp
theorem text_ref {n : Nat} (hn : 20 ≤ n) {f : Fail} (h : i64F f) : f15 n f = some (bs (txt f)) := by
  have hk := itoa_len h.1
  have hc := itoa_len h.2.1
  have hr := itoa_len h.2.2
  rw [f15_eq, zero_test]
  unfold txt
  by_cases hz : zeroF f
  · rw [decide_eq_true hz, if_pos hz]
    rfl
  · rw [decide_eq_false hz, if_neg hz, number_all hn h.1, number_all hn h.2.1, number_all hn h.2.2]
    simp only [Option.bind_some, cond_false]
    rw [show s15x2 = bs [32] from rfl, show s15x1 = bs [108, 111, 97, 100] from rfl, show s15x3 = bs [112, 97, 110, 105, 99] from rfl, show s15x4 = bs [99, 97, 110, 99, 101, 108] from rfl, show s15x5 = bs [98, 117, 115, 121] from rfl, show s15x6 = bs [97, 98, 111, 114, 116] from rfl, show s15x7 = bs [107, 105, 110, 100] from rfl]
    simp only [bs_append, bs_size]
    obtain ⟨k, c, r⟩ := f
    replace hk : (itoa k).length ≤ 21 := hk
    replace hc : (itoa c).length ≤ 21 := hc
    replace hr : (itoa r).length ≤ 21 := hr
    dsimp only
    rw [smallN (by omega), jn3]
    rcases Classical.em (k = 1 ∨ k = 2 ∨ k = 3 ∨ k = 4 ∨ k = 5) with h1 | h1
    · rcases h1 with rfl | rfl | rfl | rfl | rfl
      all_goals
        simp only [cond_false, cond_true, beq_self_eq_true, show ((2 : Int) == 1) = false from rfl, show ((3 : Int) == 1) = false from rfl, show ((4 : Int) == 1) = false from rfl, show ((5 : Int) == 1) = false from rfl, show ((3 : Int) == 2) = false from rfl, show ((4 : Int) == 2) = false from rfl, show ((5 : Int) == 2) = false from rfl, show ((4 : Int) == 3) = false from rfl, show ((5 : Int) == 3) = false from rfl, show ((5 : Int) == 4) = false from rfl]
        rw [smallN (by omega), smallN (by simp; omega), smallN (by simp; omega)]
        simp [wrd]
    · rw [wrd_other (by omega)]
      simp only [eqF (show ¬ k = 1 by omega), eqF (show ¬ k = 2 by omega), eqF (show ¬ k = 3 by omega), eqF (show ¬ k = 4 by omega), eqF (show ¬ k = 5 by omega), cond_false]
      rw [smallN (by simp; omega), smallN (by simp; omega), smallN (by simp; omega), smallN (by simp; omega)]
      simp
end Go.Proofs.YthdddaikdiaijaaDoor
