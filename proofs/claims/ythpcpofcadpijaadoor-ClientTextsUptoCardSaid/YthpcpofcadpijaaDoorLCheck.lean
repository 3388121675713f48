/- The programs that may be: the client's check and the document's tell the same. -/
import Derived.Test.YthpcpofcadpijaaDoorGg
import Derived.Test.YthpcpofcadpijaaDoorLKeys
namespace Go.Proofs.YthpcpofcadpijaaDoor
open Go.Rf
theorem words : (s29x0.toList == ByteArray.empty.toList) = false ∧ (s29x1.toList == ByteArray.empty.toList) = false ∧ (s29x2.toList == ByteArray.empty.toList) = false ∧ (s29x3.toList == ByteArray.empty.toList) = false ∧
    (s29x4.toList == ByteArray.empty.toList) = false ∧ (s29x5.toList == ByteArray.empty.toList) = false ∧ (s29x6.toList == ByteArray.empty.toList) = false ∧ (s29x7.toList == ByteArray.empty.toList) = false ∧ (s29x8.toList == ByteArray.empty.toList) = false := by
  rw [empty_toList]
  simp only [Lib.toList_data]
  exact ⟨rfl, rfl, rfl, rfl, rfl, rfl, rfl, rfl, rfl⟩
theorem words2 : (s48x0.toList == ByteArray.empty.toList) = false ∧ (s48x1.toList == ByteArray.empty.toList) = false ∧ (s48x2.toList == ByteArray.empty.toList) = false ∧ (s48x3.toList == ByteArray.empty.toList) = false ∧
    (s48x4.toList == ByteArray.empty.toList) = false ∧ (s48x5.toList == ByteArray.empty.toList) = false ∧ (s48x6.toList == ByteArray.empty.toList) = false ∧ (s48x7.toList == ByteArray.empty.toList) = false ∧ (s48x8.toList == ByteArray.empty.toList) = false := by
  rw [empty_toList]
  simp only [Lib.toList_data]
  exact ⟨rfl, rfl, rfl, rfl, rfl, rfl, rfl, rfl, rfl⟩
/-- How a thing to do is told, by both. -/
theorem forms (n : Nat) (op : Int) : ∃ (wd wd' : ByteArray) (kb sb nb : Bool) (least most : Int), f29 n op = some (wd, kb, sb, nb, most) ∧ f48 n op = some (wd', kb, sb, nb, least, most) ∧
    (wd.toList == ByteArray.empty.toList) = (wd'.toList == ByteArray.empty.toList) ∧ ((op = 5 ∧ nb = true ∧ least = 1) ∨ (op ≠ 5 ∧ least = 0)) := by
  obtain ⟨a0, a1, a2, a3, a4, a5, a6, a7, a8⟩ := words
  obtain ⟨b0, b1, b2, b3, b4, b5, b6, b7, b8⟩ := words2
  rw [f29_eq, f48_eq]
  by_cases h1 : op = 1
  · subst h1; exact ⟨_, _, _, _, _, _, _, rfl, rfl, by rw [a0, b0], .inr ⟨by decide, rfl⟩⟩
  by_cases h2 : op = 2
  · subst h2; exact ⟨_, _, _, _, _, _, _, rfl, rfl, by rw [a1, b1], .inr ⟨by decide, rfl⟩⟩
  by_cases h3 : op = 3
  · subst h3; exact ⟨_, _, _, _, _, _, _, rfl, rfl, by rw [a2, b2], .inr ⟨by decide, rfl⟩⟩
  by_cases h4 : op = 4
  · subst h4; exact ⟨_, _, _, _, _, _, _, rfl, rfl, by rw [a3, b3], .inr ⟨by decide, rfl⟩⟩
  by_cases h5 : op = 5
  · subst h5; exact ⟨_, _, _, _, _, _, _, rfl, rfl, by rw [a4, b4], .inl ⟨rfl, rfl, rfl⟩⟩
  by_cases h6 : op = 6
  · subst h6; exact ⟨_, _, _, _, _, _, _, rfl, rfl, by rw [a5, b5], .inr ⟨by decide, rfl⟩⟩
  by_cases h7 : op = 7
  · subst h7; exact ⟨_, _, _, _, _, _, _, rfl, rfl, by rw [a6, b6], .inr ⟨by decide, rfl⟩⟩
  by_cases h8 : op = 8
  · subst h8; exact ⟨_, _, _, _, _, _, _, rfl, rfl, by rw [a7, b7], .inr ⟨by decide, rfl⟩⟩
  by_cases h9 : op = 9
  · subst h9; exact ⟨_, _, _, _, _, _, _, rfl, rfl, by rw [a8, b8], .inr ⟨by decide, rfl⟩⟩
  rw [beq_false_of_ne h1, beq_false_of_ne h2, beq_false_of_ne h3, beq_false_of_ne h4, beq_false_of_ne h5, beq_false_of_ne h6, beq_false_of_ne h7, beq_false_of_ne h8, beq_false_of_ne h9]
  exact ⟨_, _, _, _, _, _, _, rfl, rfl, rfl, .inr ⟨h5, rfl⟩⟩
theorem size52 (n : Nat) (k : Key) : f52 n k = some (if (k.2.size : Int) > 64 then 20 else 0) := by
  rw [f52_eq]
  by_cases h : (k.2.size : Int) > 64
  · rw [decide_eq_true h, if_pos h]; rfl
  · rw [decide_eq_false h, if_neg h]; rfl
/-- Two that tell one and the same. -/
def Alike (a b : Option Bool) : Prop := ∃ r, a = some r ∧ b = some r
theorem Alike.of {r : Bool} : Alike (some r) (some r) := ⟨r, rfl, rfl⟩
theorem Alike.bif {c : Bool} {x y x' y' : Option Bool} (h1 : Alike x x') (h2 : Alike y y') : Alike (bif c then x else y) (bif c then x' else y') := by
  cases c
  · exact h2
  · exact h1
/-- The last part: the number. -/
theorem last_same (n m k : Nat) (d : Do) (wd' : ByteArray) (kb sb nb : Bool) (least most : Int) (hl : (d.1 = 5 ∧ nb = true ∧ least = 1) ∨ (d.1 ≠ 5 ∧ least = 0)) :
    Alike (bif nb then bif decide (d.2.2.1 < (0 : Int)) then some false else bif decide (d.2.2.1 > most) then some false else f39_21 n (k + 1) d else bif d.2.2.1 != (0 : Int) then some false else f39_21 n (k + 1) d) (f32_17 n (m + 1) d (wd', kb, sb, nb, least, most)) := by
  rw [f32_17_eq, f39_21_eq]
  cases nb with
  | true =>
    simp only [cond_true, Bool.not_true, cond_false]
    by_cases h0 : d.2.2.1 < 0
    · rw [decide_eq_true h0]
      by_cases h1 : d.2.2.1 ≥ least
      · rcases hl with ⟨_, _, e⟩ | ⟨_, e⟩ <;> omega
      · rw [decide_eq_false h1]; exact ⟨_, rfl, rfl⟩
    · rw [decide_eq_false h0]
      by_cases h2 : d.2.2.1 > most
      · rw [decide_eq_true h2, decide_eq_false (show ¬ d.2.2.1 ≤ most by omega)]
        by_cases h1 : d.2.2.1 ≥ least
        · rw [decide_eq_true h1]; exact ⟨_, rfl, rfl⟩
        · rw [decide_eq_false h1]; exact ⟨_, rfl, rfl⟩
      · rw [decide_eq_false h2, decide_eq_true (show d.2.2.1 ≤ most by omega)]
        rcases hl with ⟨e5, _, e⟩ | ⟨e5, e⟩
        · rw [e5, e]
          by_cases h1 : d.2.2.1 > 0
          · rw [decide_eq_true h1, decide_eq_true (show d.2.2.1 ≥ 1 by omega)]; exact ⟨_, rfl, rfl⟩
          · rw [decide_eq_false h1, decide_eq_false (show ¬ d.2.2.1 ≥ 1 by omega)]; exact ⟨_, rfl, rfl⟩
        · rw [e, decide_eq_true (show d.2.2.1 ≥ 0 by omega), show (d.1 != 5) = true by simp [e5]]
          exact ⟨_, rfl, rfl⟩
  | false =>
    simp only [cond_false, Bool.not_false, cond_true]
    rcases hl with ⟨_, e, _⟩ | ⟨e5, _⟩
    · cases e
    · rw [show (d.1 != 5) = true by simp [e5]]
      by_cases h : d.2.2.1 = 0
      · rw [h]; exact ⟨_, rfl, rfl⟩
      · rw [beq_false_of_ne h, show (d.2.2.1 != 0) = true by simp [h]]; exact ⟨_, rfl, rfl⟩
theorem twenty (c : Prop) [Decidable c] : ((if c then (20 : Int) else 0) != 0) = decide c := by
  by_cases h : c
  · rw [if_pos h, decide_eq_true h]; rfl
  · rw [if_neg h, decide_eq_false h]; rfl
theorem check_same (n : Nat) (d : Do) : Alike (f39 (n + 2) d) (f32 (n + 2) d) := by
  obtain ⟨wd, wd', kb, sb, nb, least, most, h1, h2, h3, h4⟩ := forms (n + 2) d.1
  have hfin := last_same (n + 2) n (n + 1) d wd' kb sb nb least most h4
  rw [f39_eq, f32_eq, h1, h2]
  simp only [Option.bind_some, size52, twenty, h3, f32_13_eq]
  refine Alike.bif Alike.of ?_
  cases kb <;> cases sb <;> cases nb <;> simp only [cond_true, cond_false, Bool.not_true, Bool.not_false] at hfin ⊢
  all_goals repeat (first | exact hfin | exact Alike.of | refine Alike.bif ?_ ?_)
/-! ### the whole program -/
theorem ref_self (n : Nat) (l : List Do) (hl : l.length ≤ 2932031007317) (hn : l.length < n) : f11 n l = some l := by
  rw [f11_eq]
  obtain ⟨s, m', h1, h3, h4⟩ := loopN (G := fun m i (s : List Do) => f11_6 n m l i s) (I := fun i s => s = l.take i) (len := l.length) (c := 1)
    (by
      intro m i s hi h1 hm
      obtain ⟨m, rfl⟩ : ∃ q, m = q + 1 := ⟨m - 1, by omega⟩
      refine ⟨_, m, rfl, by omega, ?_⟩
      show f11_6 n (m + 1) l i s = _
      have hlen : s.length + 1 ≤ 2932031007317 := by rw [h1]; simp; omega
      rw [f11_6_eq, decide_eq_true (show (i : Int) < (l.length : Int) by omega), decide_eq_true (show (0 : Int) ≤ (i : Int) ∧ (i : Int) < (l.length : Int) by omega), wI (n := (i : Int) + 1) (by omega) (by omega),
        decide_eq_true (show (s.length + [l.getD (i : Int).toNat dz].length) * 48 ≤ Go.Rf.maxBytes by show (s.length + 1) * 48 ≤ 140737488355328; omega), take_snoc (d := dz) hi, ← h1]
      rfl)
    l.length 0 n [] (by omega) rfl (by omega)
  have h4' : f11_6 n n l (0 : Int) [] = f11_6 n m' l l.length s := h4
  rw [h4']
  obtain ⟨m', rfl⟩ : ∃ q, m' = q + 1 := ⟨m' - 1, by omega⟩
  rw [f11_6_eq, decide_eq_false (show ¬ (l.length : Int) < (l.length : Int) by omega), h1, List.take_length]
  rfl
theorem checks_same (n : Nat) (l : List Do) (hn : l.length + 2 ≤ n) (hl : l.length ≤ 2932031007317) : ∃ r, f23 n l = some r ∧ f10 n l = some r ∧ (r.2 = 0 → r.1 = 0 ∧ l.length ≤ 256) := by
  rw [f23_eq, f10_eq]
  by_cases h : (l.length : Int) > 256
  · rw [decide_eq_true h]
    exact ⟨_, rfl, rfl, fun h => absurd h (by decide)⟩
  · rw [decide_eq_false h]
    simp only [cond_false]
    have key : ∀ (k i m m' : Nat), i + k = l.length → k < m → k < m' → ∃ r, f23_8 n m l l.length i = some r ∧ f10_8 n m' l i = some r ∧ (r.2 = 0 → r.1 = 0) := by
      intro k
      induction k with
      | zero =>
        intro i m m' hi hm hm'
        obtain ⟨m, rfl⟩ : ∃ q, m = q + 1 := ⟨m - 1, by omega⟩
        obtain ⟨m', rfl⟩ : ∃ q, m' = q + 1 := ⟨m' - 1, by omega⟩
        rw [f23_8_eq, f10_8_eq, decide_eq_false (show ¬ (i : Int) < (l.length : Int) by omega)]
        exact ⟨_, rfl, rfl, fun _ => rfl⟩
      | succ k ih =>
        intro i m m' hi hm hm'
        obtain ⟨m, rfl⟩ : ∃ q, m = q + 1 := ⟨m - 1, by omega⟩
        obtain ⟨m', rfl⟩ : ∃ q, m' = q + 1 := ⟨m' - 1, by omega⟩
        rw [f23_8_eq, f10_8_eq, decide_eq_true (show (i : Int) < (l.length : Int) by omega), decide_eq_true (show (0 : Int) ≤ (i : Int) ∧ (i : Int) < (l.length : Int) by omega), wI (n := (i : Int) + 1) (by omega) (by omega)]
        simp only [cond_true, Int.toNat_natCast]
        obtain ⟨n, rfl⟩ : ∃ q, n = q + 2 := ⟨n - 2, by omega⟩
        obtain ⟨b, e1, e2⟩ := check_same n (l.getD i dz)
        rw [e1, e2]
        simp only [Option.bind_some]
        cases b with
        | false => exact ⟨_, rfl, rfl, fun h => absurd (show (210 : Int) = 0 from h) (by decide)⟩
        | true => exact ih (i + 1) m m' (by omega) (by omega) (by omega)
    obtain ⟨r, e1, e2, e3⟩ := key l.length 0 n n (by omega) (by omega) (by omega)
    exact ⟨r, e1, e2, fun h0 => ⟨e3 h0, by omega⟩⟩
end Go.Proofs.YthpcpofcadpijaaDoor
