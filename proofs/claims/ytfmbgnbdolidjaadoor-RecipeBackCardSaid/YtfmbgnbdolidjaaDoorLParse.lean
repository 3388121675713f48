/- Both read any text alike. -/
import Derived.Test.YtfmbgnbdolidjaaDoorLWord
namespace Go.Proofs.YtfmbgnbdolidjaaDoor
open Go.Rf Go.Lib
/-- The words of steps, and how many numbers follow. -/
def wd : Nat → Bytes
  | 1 => [97, 100, 100] | 2 => [115, 104, 105, 102, 116] | 3 => [107, 101, 121] | 4 => [114, 117, 110] | 5 => [116, 117, 114, 110] | 6 => [103, 97, 116, 101]
  | 7 => [115, 108, 101, 101, 112] | 8 => [104, 101, 101, 100] | 9 => [115, 107, 105, 112] | 10 => [97, 110, 115, 119, 101, 114] | 11 => [102, 97, 105, 108] | 12 => [112, 97, 110, 105, 99]
  | _ => []
def mn : Nat → Nat
  | 3 | 4 | 8 | 10 => 0
  | 9 => 2
  | _ => 1
theorem k_cases {k : Nat} (h1 : 1 ≤ k) (h2 : k ≤ 12) : k = 1 ∨ k = 2 ∨ k = 3 ∨ k = 4 ∨ k = 5 ∨ k = 6 ∨ k = 7 ∨ k = 8 ∨ k = 9 ∨ k = 10 ∨ k = 11 ∨ k = 12 := by omega
theorem word_at (n : Nat) {k : Nat} (h1 : 1 ≤ k) (h2 : k ≤ 12) : f21 n ((k : Nat) : Int) = some (bs (wd k), ((mn k : Nat) : Int)) := by
  rw [f21_eq]
  rcases k_cases h1 h2 with rfl | rfl | rfl | rfl | rfl | rfl | rfl | rfl | rfl | rfl | rfl | rfl <;> rfl
theorem wd_inj {a b : Nat} (a1 : 1 ≤ a) (a2 : a ≤ 12) (b1 : 1 ≤ b) (b2 : b ≤ 12) (h : wd a = wd b) : a = b := by
  rcases k_cases a1 a2 with rfl | rfl | rfl | rfl | rfl | rfl | rfl | rfl | rfl | rfl | rfl | rfl <;>
  rcases k_cases b1 b2 with rfl | rfl | rfl | rfl | rfl | rfl | rfl | rfl | rfl | rfl | rfl | rfl <;> first | rfl | (exact absurd h (by decide))
noncomputable def forms : List (ByteArray × (Int × Int)) := [(s17x0, (1 : Int), (1 : Int)), (s17x1, (2 : Int), (1 : Int)), (s17x2, (3 : Int), (0 : Int)), (s17x3, (4 : Int), (0 : Int)), (s17x4, (5 : Int), (1 : Int)), (s17x5, (6 : Int), (1 : Int)), (s17x6, (7 : Int), (1 : Int)), (s17x7, (8 : Int), (0 : Int)), (s17x8, (9 : Int), (2 : Int)), (s17x9, (10 : Int), (0 : Int)), (s17x10, (11 : Int), (1 : Int)), (s17x11, (12 : Int), (1 : Int))]
theorem forms_go (n : Nat) : f17 n = some forms := f17_eq n
theorem form_at {i : Nat} (h : i < 12) : forms.getD i (ByteArray.empty, (0 : Int), (0 : Int)) = (bs (wd (i + 1)), ((i + 1 : Nat) : Int), ((mn (i + 1) : Nat) : Int)) := by
  rcases k_cases (k := i + 1) (by omega) (by omega) with h | h | h | h | h | h | h | h | h | h | h | h <;> (obtain rfl := (Nat.succ.inj h); rfl)
abbrev P3 := Int × Int
/-- The program looks for a word. -/
theorem find_go (n : Nat) (w : Bytes) (x6 : Int) (b1 : List ByteArray × P3) (b2 : Step) : ∀ (j i m : Nat), i + j = 12 →
    (∃ k, i < k ∧ k ≤ 12 ∧ wd k = w ∧ ∃ m', m ≤ m' ∧ f24o_10 n (m + j + 1) (bs w) x6 forms 12 ((i : Nat) : Int) b1 b2 = f24o_22 n m' () ((mn k : Nat) : Int) 0 b1 b2 (((k : Nat) : Int), 0, 0)) ∨
    ((∀ k, i < k → k ≤ 12 → wd k ≠ w) ∧ f24o_10 n (m + j + 1) (bs w) x6 forms 12 ((i : Nat) : Int) b1 b2 = some ((((0, 0, 0), x6, false), (b1, ())))) := by
  intro j
  induction j with
  | zero =>
    intro i m hi
    refine .inr ⟨fun k h1 h2 => by omega, ?_⟩
    rw [f24o_10_eq, decide_eq_false (by omega)]
    rfl
  | succ j ih =>
    intro i m hi
    rw [show m + (j + 1) + 1 = (m + j + 1) + 1 by omega, f24o_10_eq, decide_eq_true (show ((i : Nat) : Int) < 12 by omega), decide_eq_true (show (0 : Int) ≤ ((i : Nat) : Int) ∧ ((i : Nat) : Int) < (forms.length : Int) from ⟨by omega, by show ((i : Nat) : Int) < 12; omega⟩), Int.toNat_natCast, form_at (show i < 12 by omega), castN (by omega)]
    simp only [cond_true]
    rw [eqBA]
    by_cases e : wd (i + 1) = w
    · rw [decide_eq_true e]
      exact .inl ⟨i + 1, by omega, by omega, e, m + j + 1, by omega, rfl⟩
    · rw [decide_eq_false e]
      rcases ih (i + 1) m (by omega) with ⟨k, h1, h2, h3, m', h4, h5⟩ | ⟨h1, h2⟩
      · exact .inl ⟨k, by omega, h2, h3, m', h4, h5⟩
      · refine .inr ⟨fun k h3 h4 => ?_, h2⟩
        by_cases hk : k = i + 1
        · rw [hk]; exact e
        · exact h1 k (by omega) h4
/-- The document looks for a word. -/
theorem find_ref (n : Nat) (w : Bytes) : ∀ (j i m : Nat), i + j = 12 →
    (∃ k, i < k ∧ k ≤ 12 ∧ wd k = w ∧ f26_4 n (m + j + 1) (bs w) ((i + 1 : Nat) : Int) = some ((k : Nat) : Int)) ∨
    ((∀ k, i < k → k ≤ 12 → wd k ≠ w) ∧ f26_4 n (m + j + 1) (bs w) ((i + 1 : Nat) : Int) = some 0) := by
  intro j
  induction j with
  | zero =>
    intro i m hi
    refine .inr ⟨fun k h1 h2 => by omega, ?_⟩
    rw [f26_4_eq, decide_eq_false (by omega)]
    rfl
  | succ j ih =>
    intro i m hi
    rw [show m + (j + 1) + 1 = (m + j + 1) + 1 by omega, f26_4_eq, decide_eq_true (show ((i + 1 : Nat) : Int) ≤ 12 by omega), word_at n (by omega) (by omega), castN (by omega)]
    simp only [cond_true, Option.bind_some]
    rw [eqBA]
    by_cases e : wd (i + 1) = w
    · rw [decide_eq_true e]
      exact .inl ⟨i + 1, by omega, by omega, e, rfl⟩
    · rw [decide_eq_false e]
      rcases ih (i + 1) m (by omega) with ⟨k, h1, h2, h3, h5⟩ | ⟨h1, h2⟩
      · exact .inl ⟨k, by omega, h2, h3, h5⟩
      · refine .inr ⟨fun k h3 h4 => ?_, h2⟩
        by_cases hk : k = i + 1
        · rw [hk]; exact e
        · exact h1 k (by omega) h4
/-- Both look for a word. -/
theorem find_both {n : Nat} (hn : 14 ≤ n) (w : Bytes) (x6 : Int) (b1 : List ByteArray × P3) (b2 : Step) :
    (∃ k, 1 ≤ k ∧ k ≤ 12 ∧ wd k = w ∧ (∃ m', n ≤ m' + 13 ∧ f24o_10 n n (bs w) x6 forms 12 0 b1 b2 = f24o_22 n m' () ((mn k : Nat) : Int) 0 b1 b2 (((k : Nat) : Int), 0, 0)) ∧ f26 n (bs w) = some ((k : Nat) : Int)) ∨
    (f24o_10 n n (bs w) x6 forms 12 0 b1 b2 = some ((((0, 0, 0), x6, false), (b1, ()))) ∧ f26 n (bs w) = some 0 ∧ ∀ k, 1 ≤ k → k ≤ 12 → wd k ≠ w) := by
  obtain ⟨m, rfl⟩ : ∃ m, n = m + 12 + 1 := ⟨n - 13, by omega⟩
  rw [f26_eq]
  rcases find_go (m + 12 + 1) w x6 b1 b2 12 0 m (by omega) with ⟨k, h1, h2, h3, m', h4, h5⟩ | ⟨h1, h2⟩
  · rcases find_ref (m + 12 + 1) w 12 0 m (by omega) with ⟨k', g1, g2, g3, g5⟩ | ⟨g1, _⟩
    · have e : k' = k := wd_inj (by omega) g2 (by omega) h2 (g3.trans h3.symm)
      rw [e] at g5
      exact .inl ⟨k, by omega, h2, h3, ⟨m', by omega, h5⟩, g5⟩
    · exact (g1 k h1 h2 h3).elim
  · rcases find_ref (m + 12 + 1) w 12 0 m (by omega) with ⟨k', g1, g2, g3, g5⟩ | ⟨_, g2⟩
    · exact (h1 k' g1 g2 g3).elim
    · exact .inr ⟨h2, g2, fun k a b => h1 k (by omega) b⟩
/-- The program's next word. -/
theorem next_go (n : Nat) {w : Bytes} {ws : Ws} {at' long : Nat} (h : at' + w.length ≤ 100000000) (hl : ws.length ≤ 100000000) :
    f39o n (bs w :: ws.map bs) (((at' : Nat) : Int), ((long : Nat) : Int)) = some (((bs w, ((at' : Nat) : Int), true), ((ws.map bs, ((at' + w.length + 1 : Nat) : Int), ((long : Nat) : Int)), ()))) := by
  have e1 : ((bs w :: ws.map bs).length : Int) = ((ws.length + 1 : Nat) : Int) := by simp
  rw [f39o_eq, e1, beq_false_of_ne (by omega), decide_eq_true (by omega), decide_eq_true (by omega)]
  simp only [cond_false, cond_true]
  have e2 : (bs w :: ws.map bs).getD 0 ByteArray.empty = bs w := rfl
  have e3 : List.drop 1 (List.take (((ws.length + 1 : Nat) : Int)).toNat (bs w :: ws.map bs)) = ws.map bs := by
    rw [Int.toNat_natCast, List.take_of_length_le (by simp)]
    rfl
  rw [e2, bs_size]
  rw [wI (n := ((w.length : Nat) : Int) + 1) (by omega) (by omega), wI (by omega) (by omega)]
  have e4 : ((at' : Nat) : Int) + (((w.length : Nat) : Int) + 1) = ((at' + w.length + 1 : Nat) : Int) := by omega
  rw [e4]
  refine congrArg some (Prod.ext rfl (Prod.ext (Prod.ext ?_ rfl) rfl))
  exact e3
theorem next_none (n : Nat) {at' long : Int} : f39o n [] (at', long) = some (((ByteArray.empty, long, false), (([], at', long), ()))) := by
  rw [f39o_eq]
  rfl
theorem may_val (n : Nat) (s : Step) : ∃ q, f33 n s = some q ∧ f20 n s = some q := by
  obtain ⟨q, h⟩ := may_some n s
  exact ⟨q, h, by rw [← may_same]; exact h⟩
/-- A skip of which the first number is read. -/
theorem may_skip1 (n : Nat) (v : Int) : f33 n (9, v, 1) = some (decide (0 ≤ v ∧ v ≤ 3)) := by
  rw [f33_eq]
  simp only [Int.reduceBEq, cond_true, cond_false]
  by_cases h1 : v ≥ 0
  · rw [decide_eq_true h1]
    by_cases h2 : v ≤ 3
    · rw [decide_eq_true h2, decide_eq_true (show 0 ≤ v ∧ v ≤ 3 from ⟨h1, h2⟩)]; rfl
    · rw [decide_eq_false h2, decide_eq_false (show ¬ (0 ≤ v ∧ v ≤ 3) from fun h => h2 h.2)]; rfl
  · rw [decide_eq_false h1, decide_eq_false (show ¬ (0 ≤ v ∧ v ≤ 3) from fun h => h1 h.1)]; rfl
theorem mn_two {k : Nat} (h1 : 1 ≤ k) (h2 : k ≤ 12) : mn k = 2 ↔ k = 9 := by
  rcases k_cases h1 h2 with rfl | rfl | rfl | rfl | rfl | rfl | rfl | rfl | rfl | rfl | rfl | rfl <;> decide
theorem mn_le (k : Nat) : mn k ≤ 2 := by unfold mn; split <;> omega
/-- The number of this place, put in. -/
def putN (j : Nat) (v : Int) (x : Step) : Step := if j = 0 then (x.1, v, x.2.2) else (x.1, x.2.1, v)
/-- Behind a number both ask alike whether the step may be. -/
theorem ask_both (n : Nat) {k : Nat} (h1 : 1 ≤ k) (h2 : k ≤ 12) {j : Nat} (_ : j < mn k) (v : Int) (A B : Int) (s : ByteArray) (x6 : Int) (d : ByteArray) (m : Nat) (acc : List Step) :
    ∃ q, f41 n (putN j v (((k : Nat) : Int), A, B)) ((j : Nat) : Int) = some q ∧
      f11_45 n (m + 1) s x6 ((mn k : Nat) : Int) ((j : Nat) : Int) d v true (putN j v (((k : Nat) : Int), A, B)) acc = f11_53 n m s x6 ((mn k : Nat) : Int) ((j : Nat) : Int) d q (putN j v (((k : Nat) : Int), A, B)) acc := by
  have hm := mn_le k
  have hk1 : (putN j v (((k : Nat) : Int), A, B)).1 = ((k : Nat) : Int) := by unfold putN; split <;> rfl
  rw [f41_eq, f11_45_eq, hk1]
  obtain ⟨q, q1, q2⟩ := may_val n (putN j v (((k : Nat) : Int), A, B))
  rw [q1, q2]
  simp only [cond_true, Option.bind_some]
  by_cases h9 : k = 9
  · have e2 : (((mn k : Nat) : Int) == 2) = true := by rw [(mn_two h1 h2).2 h9]; rfl
    have e9 : (((k : Nat) : Int) == 9) = true := by rw [h9]; rfl
    rw [e2, e9]
    by_cases h0 : j = 0
    · have e0 : (((j : Nat) : Int) == 0) = true := by rw [h0]; rfl
      have ep : (putN j v (((k : Nat) : Int), A, B)).2.1 = v := by rw [h0]; rfl
      rw [e0, ep, show (((k : Nat) : Int)) = 9 by omega, may_skip1]
      simp only [cond_true, Option.bind_some]
      refine ⟨decide (0 ≤ v ∧ v ≤ 3), rfl, ?_⟩
      by_cases a1 : v ≥ 0
      · rw [decide_eq_true a1, show decide (0 ≤ v ∧ v ≤ 3) = decide (v ≤ 3) from decide_eq_decide.2 ⟨fun h => h.2, fun h => ⟨a1, h⟩⟩, cond_true]
      · rw [decide_eq_false a1, decide_eq_false (show ¬ (0 ≤ v ∧ v ≤ 3) from fun h => a1 h.1), cond_false]
    · have e0 : (((j : Nat) : Int) == 0) = false := beq_false_of_ne (by omega)
      rw [e0]
      simp only [cond_true, cond_false]
      exact ⟨q, rfl, rfl⟩
  · have e2 : (((mn k : Nat) : Int) == 2) = false := beq_false_of_ne (fun h => h9 ((mn_two h1 h2).1 (by omega)))
    have e9 : (((k : Nat) : Int) == 9) = false := beq_false_of_ne (fun h => h9 (by omega))
    rw [e2, e9]
    simp only [cond_false]
    exact ⟨q, rfl, rfl⟩
end Go.Proofs.YtfmbgnbdolidjaaDoor
