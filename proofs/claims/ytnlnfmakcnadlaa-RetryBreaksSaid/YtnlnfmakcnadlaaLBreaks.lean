/- A breaker: what the program's and the document's tell is one and the same, whatever is asked and done. -/
import Derived.Test.YtnlnfmakcnadlaaLNil
import Derived.Test.YtnlnfmakcnadlaaLLoop
import Derived.Test.YtnlnfmakcnadlaaGg
namespace Go.Proofs.Ytnlnfmakcnadlaa
open Go.Rf
abbrev Br := Int × Int × Int × Int × Int × Int
/-- The program's breaker is the document's, but for what does not matter now. -/
def Alike (b m : Br) : Prop :=
  b.1 = m.1 ∧ b.2.1 = m.2.1 ∧ b.2.2.1 = m.2.2.1 ∧ b.2.2.2.2.2 = m.2.2.2.2.2 ∧ 0 ≤ b.2.1 ∧ (b.2.2.1 = 1 ∨ b.2.2.1 = 2 ∨ b.2.2.1 = 3) ∧ (b.2.2.1 = 1 → b.2.2.2.1 = m.2.2.2.1) ∧ (b.2.2.1 = 2 → b.2.2.2.2.1 = m.2.2.2.2.1)
def atNow (b : Br) (now : Int) : Br := (b.1, b.2.1, b.2.2.1, b.2.2.2.1, b.2.2.2.2.1, now)
theorem n12 : (1 : Int) ≠ 2 := by decide
theorem n21 : (2 : Int) ≠ 1 := by decide
theorem n31 : (3 : Int) ≠ 1 := by decide
theorem n32 : (3 : Int) ≠ 2 := by decide
theorem Alike.now {b m : Br} (h : Alike b m) (t : Int) : Alike (atNow b t) (atNow m t) := by
  obtain ⟨h1, h2, h3, _, h5, h6, h7, h8⟩ := h
  exact ⟨h1, h2, h3, rfl, h5, h6, h7, h8⟩
/-- What is wrong with a tick. -/
theorem may_both {n : Nat} {b m : Br} (h : Alike b m) (now : Int) :
    (∃ e, e ≠ 0 ∧ f88o n now b = some (e, b, ()) ∧ f90 n m now = some e) ∨ ((0 ≤ now ∧ now ≤ 4611686018427387904) ∧ f88o n now b = some (0, atNow b now, ()) ∧ f90 n m now = some 0) := by
  rw [f88o_eq, f90_eq, f27_eq]
  by_cases h1 : now ≥ 0
  · by_cases h2 : now ≤ 4611686018427387904
    · rw [decide_eq_true h1, decide_eq_true h2, decide_eq_false (show ¬ now < 0 by omega), decide_eq_false (show ¬ now > 4611686018427387904 by omega), h.2.2.2.1]
      by_cases h3 : now < m.2.2.2.2.2
      · rw [decide_eq_true h3]
        exact .inl ⟨101, by decide, rfl, rfl⟩
      · rw [decide_eq_false h3]
        exact .inr ⟨⟨h1, h2⟩, rfl, rfl⟩
    · rw [decide_eq_true h1, decide_eq_false h2, decide_eq_false (show ¬ now < 0 by omega), decide_eq_true (show now > 4611686018427387904 by omega)]
      exact .inl ⟨10, by decide, rfl, rfl⟩
  · rw [decide_eq_false h1, decide_eq_true (show now < 0 by omega)]
    exact .inl ⟨10, by decide, rfl, rfl⟩
theorem ask_both {n : Nat} {b m : Br} (h : Alike b m) (now : Int) : ∃ ok e b' m', f66o n now b = some ((ok, e), b', ()) ∧ f72 n m now = some (m', ok, e) ∧ Alike b' m' := by
  rw [f66o_eq, f72_eq]
  rcases may_both (n := n) h now with ⟨e, he, h1, h2⟩ | ⟨_, h1, h2⟩
  · have hb : (e != 0) = true := by simp [he]
    rw [h1, h2]
    simp only [Option.bind_some, hb, cond_true]
    exact ⟨_, _, _, _, rfl, rfl, h⟩
  · rw [h1, h2]
    simp only [Option.bind_some, bne_self_eq_false, cond_false]
    have hn := h.now now
    obtain ⟨_, _, h3, _, _, h6, _, h8⟩ := h
    have hs : (atNow b now).2.2.1 = b.2.2.1 := rfl
    have hu : (atNow b now).2.2.2.2.1 = b.2.2.2.2.1 := rfl
    simp only [hs, hu]
    rw [← h3]
    rcases h6 with h6 | h6 | h6
    · rw [h6]
      exact ⟨_, _, _, _, rfl, by simp only [Int.reduceBEq, cond_false]; rw [h3] at h6; exact congrArg (fun x : Int => some ((m.1, m.2.1, x, m.2.2.2.1, m.2.2.2.2.1, now), true, (0 : Int))) h6.symm, hn⟩
    · rw [h6, ← h8 h6]
      simp only [Int.reduceBEq, cond_false, cond_true]
      by_cases hlt : now < b.2.2.2.2.1
      · rw [decide_eq_true hlt, decide_eq_false (show ¬ now ≥ b.2.2.2.2.1 by omega)]
        obtain ⟨j1, j2, _, j4, j5, _, _, _⟩ := hn
        exact ⟨_, _, _, _, rfl, rfl, j1, j2, h6, j4, j5, .inr (.inl h6), fun x => (n21 (h6.symm.trans x)).elim, fun _ => rfl⟩
      · rw [decide_eq_false hlt, decide_eq_true (show now ≥ b.2.2.2.2.1 by omega)]
        obtain ⟨j1, j2, _, j4, j5, _⟩ := hn
        exact ⟨_, _, _, _, rfl, rfl, j1, j2, rfl, j4, j5, .inr (.inr rfl), fun x => (n31 x).elim, fun x => (n32 x).elim⟩
    · rw [h6]
      exact ⟨_, _, _, _, rfl, by simp only [Int.reduceBEq, cond_false]; rw [h3] at h6; exact congrArg (fun x : Int => some ((m.1, m.2.1, x, m.2.2.2.1, m.2.2.2.2.1, now), false, (0 : Int))) h6.symm, hn⟩
/-- It opens. -/
theorem open_both {n : Nat} {now : Int} (hnow : 0 ≤ now ∧ now ≤ 4611686018427387904) (b m : Br) (h1 : b.1 = m.1) (h2 : b.2.1 = m.2.1) (h5 : 0 ≤ b.2.1) (h4 : b.2.2.2.2.2 = m.2.2.2.2.2) :
    ∃ b' m', f89o n now b = some ((), b', ()) ∧ f91 n m now = some m' ∧ Alike b' m' := by
  rw [f89o_eq, f91_eq, f33_eq, f27_eq, decide_eq_true hnow.1, decide_eq_true hnow.2, decide_eq_false (show ¬ b.2.1 < 0 by omega), wI (n := 4611686018427387904 - now) (by omega) (by omega), h2]
  by_cases hc : m.2.1 ≤ 4611686018427387904 - now
  · rw [decide_eq_true hc, decide_eq_false (show ¬ m.2.1 > 4611686018427387904 - now by omega)]
    exact ⟨_, _, rfl, rfl, h1, rfl, rfl, h4, by rw [h2] at h5; exact h5, .inr (.inl rfl), fun x => (n21 x).elim, fun _ => rfl⟩
  · rw [decide_eq_false hc, decide_eq_true (show m.2.1 > 4611686018427387904 - now by omega)]
    exact ⟨_, _, rfl, rfl, h1, rfl, rfl, h4, by rw [h2] at h5; exact h5, .inr (.inl rfl), fun x => (n21 x).elim, fun _ => rfl⟩
theorem done_both {n : Nat} {b m : Br} (h : Alike b m) (now : Int) (fine : Bool) : ∃ e b' m', f68o n now fine b = some (e, b', ()) ∧ f73 n m now fine = some (m', e) ∧ Alike b' m' := by
  rw [f68o_eq, f73_eq]
  rcases may_both (n := n) h now with ⟨e, he, h1, h2⟩ | ⟨hnow, h1, h2⟩
  · have hb : (e != 0) = true := by simp [he]
    rw [h1, h2]
    simp only [Option.bind_some, hb, cond_true]
    exact ⟨_, _, _, rfl, rfl, h⟩
  · rw [h1, h2]
    simp only [Option.bind_some, bne_self_eq_false, cond_false]
    obtain ⟨F, C, S, f, u, w⟩ := b
    obtain ⟨F', C', S', f', u', w'⟩ := m
    obtain ⟨j1, j2, j3, _, j5, j6, j7, j8⟩ := h
    simp only at j1 j2 j3 j5 j6 j7 j8
    subst j1 j2 j3
    unfold atNow
    simp only
    rcases j6 with rfl | rfl | rfl
    · have e1 := j7 rfl
      subst e1
      simp only [Int.reduceBEq, cond_false, cond_true]
      cases fine with
      | true => exact ⟨_, _, _, rfl, rfl, rfl, rfl, rfl, rfl, j5, .inl rfl, fun _ => rfl, fun x => (n12 x).elim⟩
      | false =>
        simp only [cond_false]
        by_cases hf : IntKind.i64.wrap (f + 1) ≥ F
        · rw [decide_eq_true hf]
          obtain ⟨b', m', o1, o2, o3⟩ := open_both (n := n) hnow (F, C, 1, IntKind.i64.wrap (f + 1), u, now) (F, C, 1, IntKind.i64.wrap (f + 1), u', now) rfl rfl j5 rfl
          simp only [cond_true]
          rw [o1, o2]
          exact ⟨_, _, _, rfl, rfl, o3⟩
        · rw [decide_eq_false hf]
          exact ⟨_, _, _, rfl, rfl, rfl, rfl, rfl, rfl, j5, .inl rfl, fun _ => rfl, fun x => (n12 x).elim⟩
    · have e1 := j8 rfl
      subst e1
      simp only [Int.reduceBEq, cond_false, cond_true]
      exact ⟨_, _, _, rfl, rfl, rfl, rfl, rfl, rfl, j5, .inr (.inl rfl), fun x => (n21 x).elim, fun _ => rfl⟩
    · simp only [Int.reduceBEq, cond_false, cond_true]
      cases fine with
      | true => exact ⟨_, _, _, rfl, rfl, rfl, rfl, rfl, rfl, j5, .inl rfl, fun _ => rfl, fun x => (n12 x).elim⟩
      | false =>
        simp only [cond_false]
        obtain ⟨b', m', o1, o2, o3⟩ := open_both (n := n) hnow (F, C, 3, f, u, now) (F, C, 3, f', u', now) rfl rfl j5 rfl
        rw [o1, o2]
        exact ⟨_, _, _, rfl, rfl, o3⟩
/-- Behind each act it says what it must. -/
theorem says (n m : Nat) (l : List (Int × Int)) (i : Nat) (hi : i < 9223372036854775807) (x : Bool) (e : Int × Int) {b r : Br} (h : Alike b r) :
    f15_1000057 n (m + 2) l true i x r e b = f15_1000014 n m l true ((i + 1 : Nat) : Int) r b := by
  have hs : f15_1000063 n (m + 1) l true i (bif isT e.2 then r.2.2.1 else 0) x r e b = f15_1000014 n m l true ((i + 1 : Nat) : Int) r b := by
    obtain ⟨_, _, h3, _, _, _, _, h8⟩ := h
    rw [f15_1000063_eq, f67o_eq, wI (n := (i : Int) + 1) (by omega) (by omega), ← h3]
    simp only [f69o_eq, is_go]
    by_cases h2 : b.2.2.1 = 2
    · rw [h2, bne_self_eq_false]
      simp only [cond_false, Option.bind_some, ← h8 h2]
      cases isT e.2 with
      | true => simp only [Bool.not_true, cond_false, cond_true, Option.bind_some, h2, bne_self_eq_false, beq_self_eq_true]; rfl
      | false => simp only [Bool.not_false, cond_false, cond_true, Option.bind_some, bne_self_eq_false, beq_self_eq_true, Bool.not_true]; rfl
    · have e2 : (b.2.2.1 != 2) = true := by simp [h2]
      have e3 : (b.2.2.1 == 2) = false := beq_false_of_ne h2
      rw [e2, e3]
      simp only [cond_true, Option.bind_some]
      cases isT e.2 with
      | true => simp only [Bool.not_true, cond_false, cond_true, Option.bind_some, bne_self_eq_false, beq_self_eq_true, Bool.not_false]; rfl
      | false => simp only [Bool.not_false, cond_false, cond_true, Option.bind_some, bne_self_eq_false, beq_self_eq_true, Bool.not_true]; rfl
  rw [f15_1000057_eq, is_ref, Option.bind_some]
  cases ht : isT e.2 with
  | true =>
    rw [ht, cond_true] at hs
    rw [Bool.not_true, cond_false]
    exact hs
  | false =>
    rw [ht, cond_false] at hs
    rw [Bool.not_false, cond_true]
    exact hs
theorem act_step (n : Nat) {l : List (Int × Int)} (hl : l.length ≤ 9223372036854775807) {m i : Nat} (hi : i < l.length) (hm : 4 ≤ m) {b r : Br} (h : Alike b r) :
    ∃ b' r' m', m ≤ m' + 4 ∧ Alike b' r' ∧ f15_1000014 n m l true i r b = f15_1000014 n m' l true ((i + 1 : Nat) : Int) r' b' := by
  obtain ⟨m, rfl⟩ : ∃ q, m = q + 4 := ⟨m - 4, by omega⟩
  rw [f15_1000014_eq, decide_eq_true (show (i : Int) < (l.length : Int) by omega), cond_true, cond_true, f15_1000019_eq, decide_eq_true (show (0 : Int) ≤ (i : Int) ∧ (i : Int) < (l.length : Int) by omega), cond_true]
  generalize List.getD l (i : Int).toNat ((0 : Int), (0 : Int)) = e
  by_cases h0 : e.1 = 0
  · obtain ⟨ok, er, b', r', a1, a2, a3⟩ := ask_both (n := n) h e.2
    refine ⟨b', r', m, by omega, a3, ?_⟩
    rw [h0, beq_self_eq_true, cond_true, a1, Option.bind_some, a2, Option.bind_some]
    simp only [beq_self_eq_true, Bool.not_true, cond_false, bne_self_eq_false]
    exact says n m l i (by omega) true e a3
  · rw [beq_false_of_ne h0, cond_false]
    by_cases h3 : e.1 = 3
    · obtain ⟨er, b', r', a1, _, _⟩ := done_both (n := n) h 4611686018427387904 false
      refine ⟨b, r, m, by omega, h, ?_⟩
      rw [h3, beq_self_eq_true, cond_true, f70o_eq, Option.bind_some, a1, Option.bind_some]
      exact says n m l i (by omega) true e h
    · rw [beq_false_of_ne h3, cond_false]
      obtain ⟨er, b', r', a1, a2, a3⟩ := done_both (n := n) h e.2 (e.1 == 1)
      refine ⟨b', r', m, by omega, a3, ?_⟩
      rw [a1, Option.bind_some, a2, Option.bind_some]
      simp only [bne_self_eq_false, cond_false]
      exact says n m l i (by omega) true e a3
theorem acts_go (n : Nat) {l : List (Int × Int)} (hl : l.length ≤ 9223372036854775807) {b r : Br} (h : Alike b r) {m : Nat} (hm : l.length * 4 + 1 ≤ m) : f15_1000014 n m l true 0 r b = some true := by
  obtain ⟨s, m1, h1, h2, h3⟩ := loopN (G := fun m i (s : Br × Br) => f15_1000014 n m l true i s.2 s.1) (I := fun _ s => Alike s.1 s.2) (len := l.length) (c := 4)
    (by
      intro m i s hi hI hm
      obtain ⟨b', r', m', a1, a2, a3⟩ := act_step n hl hi hm hI
      exact ⟨(b', r'), m', a2, a1, a3⟩)
    l.length 0 m (b, r) (by omega) h (by omega)
  obtain ⟨m1, rfl⟩ : ∃ q, m1 = q + 1 := ⟨m1 - 1, by omega⟩
  rw [show ((0 : Nat) : Int) = 0 from rfl] at h3
  refine h3.trans ?_
  show f15_1000014 n (m1 + 1) l true (l.length : Nat) s.2 s.1 = _
  rw [f15_1000014_eq, decide_eq_false (show ¬ (l.length : Int) < (l.length : Int) by omega), cond_false]
theorem none_go (n m : Nat) (fails cool : Int) (l : List (Int × Int)) : f15_7 n (m + 2) fails cool l 1 false = some true := by
  rw [f15_7_eq, awake_retry, Option.bind_some]
  simp only [Bool.not_true, cond_false, beq_self_eq_true, Int.reduceBEq, Bool.not_false, cond_true, bne_self_eq_false]
  rw [f15_14_eq]
  cases decide ((0 : Int) < (l.length : Int)) <;> rfl
theorem retry_breaks {n : Nat} {l : List (Int × Int)} (hl : l.length ≤ 9223372036854775807) (hn : l.length * 4 + 10 ≤ n) (fails cool : Int) : f15 n fails cool l = some true := by
  obtain ⟨m, hm⟩ : ∃ m, n = m + 2 := ⟨n - 2, by omega⟩
  have none7 : f15_7 n n fails cool l 1 false = some true := by
    have := none_go n m fails cool l
    rw [← hm] at this
    exact this
  rw [f15_eq, f71o_eq]
  by_cases h1 : fails < 1
  · rw [decide_eq_true h1, cond_true, Option.bind_some, decide_eq_false (show ¬ fails ≥ 1 by omega)]
    simp only [Sum.elim_inl, cond_false]
    exact none7
  · rw [decide_eq_false h1, cond_false, decide_eq_true (show fails ≥ 1 by omega)]
    by_cases h2 : cool < 0
    · rw [decide_eq_true h2, cond_true, Option.bind_some, decide_eq_false (show ¬ cool ≥ 0 by omega)]
      simp only [Sum.elim_inl, cond_true]
      exact none7
    · rw [decide_eq_false h2, cond_false, Option.bind_some, decide_eq_true (show cool ≥ 0 by omega)]
      simp only [Sum.elim_inr, cond_true]
      have e : f15_1000007 n n fails cool l 0 true (fails, cool, 1, 0, 0, 0) = f15_1000007 n (m + 1 + 1) fails cool l 0 true (fails, cool, 1, 0, 0, 0) := by
        conv => lhs; arg 2; rw [hm]
      rw [e, f15_1000007_eq, awake_retry, Option.bind_some]
      simp only [Bool.not_true, cond_false, beq_self_eq_true]
      exact acts_go n hl (show Alike (fails, cool, 1, 0, 0, 0) (fails, cool, 1, 0, 0, 0) from ⟨rfl, rfl, rfl, rfl, by show 0 ≤ cool; omega, .inl rfl, fun _ => rfl, fun x => (n12 x).elim⟩) (by omega)
end Go.Proofs.Ytnlnfmakcnadlaa
