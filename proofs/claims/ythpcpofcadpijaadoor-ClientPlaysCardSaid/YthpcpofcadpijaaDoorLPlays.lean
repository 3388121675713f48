/- A client goes through its program: the plain law ClientPlays. -/
import Derived.Test.YthpcpofcadpijaaDoorLOne
import Derived.Test.YthpcpofcadpijaaDoorGh
namespace Go.Proofs.YthpcpofcadpijaaDoor
open Go.Rf
theorem Agrees.turn {S C S' C' : List Int} {F F' : List Got} {sl sl' : List Slot} (h : Agrees S C F sl) (j0 : Nat) (h1 : S'.length = 16) (h2 : C'.length = 16) (h3 : F'.length = 16) (h4 : sl'.length = 16)
    (ho : ∀ j, j ≠ j0 → S'.getD j 0 = S.getD j 0 ∧ C'.getD j 0 = C.getD j 0 ∧ F'.getD j gz = F.getD j gz ∧ sl'.getD j sz = sl.getD j sz) (h0 : At (S'.getD j0 0) (C'.getD j0 0) (F'.getD j0 gz) (sl'.getD j0 sz)) : Agrees S' C' F' sl' :=
  ⟨h1, h2, h3, h4, fun j hj => by
    by_cases e : j = j0
    · subst e; exact h0
    · obtain ⟨e1, e2, e3, e4⟩ := ho j e
      rw [e1, e2, e3, e4]
      exact h.all j hj⟩
abbrev Mod := Unit × (Int × (Int × (Unit × (List Int × (List Int × List Got)))))
abbrev Bx := List Do × (Int × (Int × (Unit × List Slot)))
abbrev R1 := (Unit × (Mod × Bool)) × (Bx × (List Got × (List Do × (List Got × Unit))))
abbrev R2 := (Unit × (Mod × Bool)) × (Bx × (List Got × (List Do × (List Got × (Bx × (List Got × Unit))))))
/-- What a client and what it must be are, behind one thing done. -/
def Told (l : List Do) (log : List Got) (r : Option (R1 ⊕ R2)) : Prop :=
  ∃ (a t : Int) (S C : List Int) (F : List Got) (sl : List Slot) (log' : List Got), Agrees S C F sl ∧ 0 ≤ a ∧ a ≤ (l.length : Int) ∧ log'.length ≤ log.length + 1 ∧
    (r = some (.inl ((((), ((), (a, (t, ((), (S, C, F))))), true), ((l, (a, (t, ((), sl)))), log', l, log', ())))) ∨
     ∃ g1 g2, r = some (.inr ((((), ((), (a, (t, ((), (S, C, F))))), true), (g1, g2, l, log', (l, (a, (t, ((), sl)))), log', ())))))
theorem one_start (n : Nat) (a t : Int) (S C : List Int) (F : List Got) (x : Act) (l : List Do) (sl : List Slot) (log : List Got) :
    f12o n a t (S, C, F) x l a t sl log l log = f12o_5 n n false (decide (0 ≤ x.2.1 ∧ x.2.1 < 16)) l a t sl a t (S, C, F) x (0 : Int) (0 : Int) (List.replicate 16 0, List.replicate 16 0, List.replicate 16 gz) log l log [] [] := by
  rw [f12o_eq]
  by_cases h : x.2.1 ≥ 0
  · rw [decide_eq_true h]
    by_cases h2 : x.2.1 < 16
    · rw [decide_eq_true h2, decide_eq_true (show 0 ≤ x.2.1 ∧ x.2.1 < 16 from ⟨h, h2⟩)]; rfl
    · rw [decide_eq_false h2, decide_eq_false (fun hh : 0 ≤ x.2.1 ∧ x.2.1 < 16 => h2 hh.2)]; rfl
  · rw [decide_eq_false h, decide_eq_false (fun hh : 0 ≤ x.2.1 ∧ x.2.1 < 16 => h hh.1)]; rfl
theorem one_step (n : Nat) (hn : 4 ≤ n) (l : List Do) (hl : l.length ≤ 256) (a t : Int) (h0 : 0 ≤ a) (ha : a ≤ (l.length : Int)) (S C : List Int) (F : List Got) (sl : List Slot) (hA : Agrees S C F sl) (log : List Got) (hlog : log.length ≤ 1800000000000) (x : Act) :
    Told l log (f12o n a t (S, C, F) x l a t sl log l log) := by
  obtain ⟨n, rfl⟩ : ∃ m, n = m + 4 := ⟨n - 4, by omega⟩
  rw [one_start]
  generalize (List.replicate 16 (0 : Int), List.replicate 16 (0 : Int), List.replicate 16 gz) = r16
  obtain ⟨k, N, c, g⟩ := x
  rw [show n + 4 = (n + 3) + 1 from rfl, f12o_5_eq]
  have hsame : ∀ (r : _), r = some (Sum.inl ((((), ((), (a, (t, ((), (S, C, F))))), true), ((l, (a, (t, ((), sl)))), log, l, log, ())))) → Told l log r :=
    fun r e => ⟨a, t, S, C, F, sl, log, hA, h0, ha, by omega, .inl e⟩
  by_cases k0 : k = 0
  · subst k0
    simp only [beq_self_eq_true, cond_true]
    rw [go_step _ l a t sl log h0 ha hl]
    simp only [Option.bind_some]
    by_cases h : a < (l.length : Int)
    · rw [decide_eq_true h, if_pos h, wI (n := a + 1) (by omega) (by omega)]
      exact ⟨a + 1, t, S, C, F, sl, log, hA, by omega, by omega, by omega, .inl rfl⟩
    · rw [decide_eq_false h, if_neg h]
      exact hsame _ rfl
  by_cases k1 : k = 1
  · simp only [beq_false_of_ne k0, show (k == 1) = true by rw [k1]; rfl, cond_true, cond_false]
    have key : ∀ is : Bool, is = decide (0 ≤ N ∧ N ≤ 1024) → Told l log (f12o_23 (n + 3 + 1) (n + 3) false is l a t sl a t (S, C, F) (k, N, c, g) (0 : Int) (0 : Int) r16 log l log [] []) := by
      intro is his
      rw [show n + 3 = (n + 2) + 1 from rfl, f12o_23_eq]
      simp only [use_step, want_is, Option.bind_some]
      by_cases h : 0 ≤ N ∧ N ≤ 1024
      · rw [his, decide_eq_true h]
        simp only [if_pos h, cond_true, if_true]
        exact ⟨a, N, S, C, F, sl, log, hA, h0, ha, by omega, .inl rfl⟩
      · rw [his, decide_eq_false h]
        simp only [if_neg h, cond_false, Bool.false_eq_true, if_false]
        exact hsame _ rfl
    by_cases h : N ≥ 0
    · rw [decide_eq_true h]
      refine key _ ?_
      by_cases h2 : N ≤ 1024
      · rw [decide_eq_true h2, decide_eq_true (show 0 ≤ N ∧ N ≤ 1024 from ⟨h, h2⟩)]
      · rw [decide_eq_false h2, decide_eq_false (fun hh : 0 ≤ N ∧ N ≤ 1024 => h2 hh.2)]
    · rw [decide_eq_false h]
      exact key _ (by rw [decide_eq_false (fun hh : 0 ≤ N ∧ N ≤ 1024 => h hh.1)])
  by_cases k2 : k = 2
  · obtain ⟨b, e1, e2⟩ := may_had (n + 3 + 1) l a t log S C F g
    have e3 := e2 t sl log hlog
    simp only [beq_false_of_ne k0, beq_false_of_ne k1, show (k == 2) = true by rw [k2]; rfl, cond_true, cond_false]
    rw [e1]
    simp only [Option.bind_some]
    rw [decide_eq_true (show ((0 : Nat) + log.length) * 56 ≤ Go.Rf.maxBytes by show (0 + log.length) * 56 ≤ 140737488355328; omega),
      decide_eq_true (show ((([] : List Got) ++ log).length + [g].length) * 56 ≤ Go.Rf.maxBytes by show (log.length + 1) * 56 ≤ 140737488355328; omega)]
    simp only [e3, want_is, Option.bind_some, cond_true, both_self]
    cases b with
    | true =>
      simp only [if_true, cond_true]
      exact ⟨a, t, S, C, F, sl, log ++ [g], hA, h0, ha, by simp, .inl rfl⟩
    | false =>
      simp only [Bool.false_eq_true, if_false, cond_false]
      exact hsame _ rfl
  by_cases k3 : k = 3
  · simp only [beq_false_of_ne k0, beq_false_of_ne k1, beq_false_of_ne k2, show (k == 3) = true by rw [k3]; rfl, cond_true, cond_false, want_is, Option.bind_some]
    by_cases h : 0 ≤ N ∧ N < 16
    · simp only [decide_eq_true h, cond_true]
      rw [show n + 3 = (n + 2) + 1 from rfl, f12o_47_eq, put_slot _ _ _ _ _ _ _ _ hA.hl]
      simp only [if_pos h, Option.bind_some]
      rw [decide_eq_true (show (0 : Int) ≤ N ∧ N < ((16 : Nat) : Int) by omega)]
      by_cases h1 : c ≥ 1
      · simp only [decide_eq_true h1, if_true, if_pos (show 1 ≤ c from h1), beq_self_eq_true, cond_true]
        have hj : N.toNat < 16 := by omega
        refine ⟨a, t, S.set N.toNat 2, C.set N.toNat c, F, sl.set N.toNat (2, c, gz), log, hA.turn N.toNat (by rw [List.length_set]; exact hA.hs) (by rw [List.length_set]; exact hA.hc) hA.hf (by rw [List.length_set]; exact hA.hl)
          (fun j hne => ⟨getD_set_ne hne.symm, getD_set_ne hne.symm, rfl, getD_set_ne hne.symm⟩) ?_, h0, ha, by omega, .inl rfl⟩
        rw [getD_set_self (by rw [hA.hs]; exact hj), getD_set_self (by rw [hA.hc]; exact hj), getD_set_self (by rw [hA.hl]; exact hj)]
        exact .inr (.inl ⟨rfl, rfl, rfl⟩)
      · simp only [decide_eq_false h1, Bool.false_eq_true, if_false, if_neg (show ¬ 1 ≤ c from h1), beq_self_eq_true]
        exact hsame _ rfl
    · simp only [decide_eq_false h, cond_false, Bool.false_eq_true, if_false]
      rw [show n + 3 = (n + 2) + 1 from rfl, f12o_47_eq, put_slot _ _ _ _ _ _ _ _ hA.hl]
      simp only [if_neg h, Option.bind_some, beq_self_eq_true]
      exact hsame _ rfl
  have at0 : ∀ (h : 0 ≤ N ∧ N < 16), At (S.getD N.toNat 0) (C.getD N.toNat 0) (F.getD N.toNat gz) (sl.getD N.toNat sz) := fun h => hA.all _ (by omega)
  by_cases k4 : k = 4
  · simp only [beq_false_of_ne k0, beq_false_of_ne k1, beq_false_of_ne k2, beq_false_of_ne k3, show (k == 4) = true by rw [k4]; rfl, cond_true, cond_false]
    have no : ¬ (0 ≤ N ∧ N < 16 ∧ (sl.getD N.toNat sz).1 = 2 ∧ (sl.getD N.toNat sz).2.1 = c) → Told l log (f12o_57 (n + 3 + 1) (n + 3) false false l a t sl a t (S, C, F) (k, N, c, g) (0 : Int) (0 : Int) r16 log l log [] []) := by
      intro hno
      rw [show n + 3 = (n + 2) + 1 from rfl, f12o_57_eq, fill_slot _ _ _ _ _ _ _ _ _ hA.hl, if_neg hno]
      exact hsame _ rfl
    by_cases h : 0 ≤ N ∧ N < 16
    · have hj : N.toNat < 16 := by omega
      simp only [decide_eq_true h, cond_true]
      rw [decide_eq_true (show (0 : Int) ≤ N ∧ N < ((16 : Nat) : Int) by omega)]
      simp only [cond_true]
      by_cases h2 : S.getD N.toNat 0 = 2
      · rw [show (List.getD S N.toNat 0 == 2) = true by rw [h2]; rfl]
        simp only [cond_true]
        have hat : (sl.getD N.toNat sz).1 = 2 ∧ (sl.getD N.toNat sz).2.1 = C.getD N.toNat 0 := by
          rcases at0 h with ⟨e, _⟩ | ⟨_, e, e'⟩ | ⟨e, _⟩
          · rw [e] at h2; cases h2
          · exact ⟨e, e'⟩
          · rw [e] at h2; cases h2
        by_cases h3 : C.getD N.toNat 0 = c
        · rw [show (List.getD C N.toNat 0 == c) = true by rw [h3]; simp]
          rw [show n + 3 = (n + 2) + 1 from rfl, f12o_57_eq, fill_slot _ _ _ _ _ _ _ _ _ hA.hl, if_pos ⟨h.1, h.2, hat.1, hat.2.trans h3⟩,
            decide_eq_true (show (0 : Int) ≤ N ∧ N < ((16 : Nat) : Int) by omega)]
          simp only [cond_true, Option.bind_some, beq_self_eq_true]
          refine ⟨a, t, S.set N.toNat 3, C, F.set N.toNat g, sl.set N.toNat (3, (sl.getD N.toNat sz).2.1, g), log, hA.turn N.toNat (by rw [List.length_set]; exact hA.hs) hA.hc (by rw [List.length_set]; exact hA.hf) (by rw [List.length_set]; exact hA.hl)
            (fun j hne => ⟨getD_set_ne hne.symm, rfl, getD_set_ne hne.symm, getD_set_ne hne.symm⟩) ?_, h0, ha, by omega, .inl rfl⟩
          rw [getD_set_self (by rw [hA.hs]; exact hj), getD_set_self (by rw [hA.hf]; exact hj), getD_set_self (by rw [hA.hl]; exact hj)]
          exact .inr (.inr ⟨rfl, rfl, rfl⟩)
        · rw [beq_false_of_ne h3]
          exact no fun hh => h3 (hat.2.symm.trans hh.2.2.2)
      · rw [beq_false_of_ne h2]
        refine no fun hh => h2 ?_
        rcases at0 h with ⟨_, e⟩ | ⟨e, _⟩ | ⟨_, e, _⟩
        · rw [e] at hh; exact absurd hh.2.2.1 (by decide)
        · exact e
        · rw [e] at hh; exact absurd hh.2.2.1 (by decide)
    · simp only [decide_eq_false h, cond_false]
      exact no fun hh => h ⟨hh.1, hh.2.1⟩
  by_cases k5 : k = 5
  · simp only [beq_false_of_ne k0, beq_false_of_ne k1, beq_false_of_ne k2, beq_false_of_ne k3, beq_false_of_ne k4, show (k == 5) = true by rw [k5]; rfl, cond_true, cond_false]
    rw [take_slot _ _ _ _ _ _ _ hA.hl]
    by_cases h : 0 ≤ N ∧ N < 16
    · have hj : N.toNat < 16 := by omega
      simp only [if_pos h, Option.bind_some, decide_eq_true h, Bool.not_true, cond_false]
      rw [decide_eq_true (show (0 : Int) ≤ N ∧ N < ((16 : Nat) : Int) by omega)]
      simp only [cond_true]
      rcases at0 h with ⟨e1, e2⟩ | ⟨e1, e2, _⟩ | ⟨e1, e2, e3⟩
      · rw [if_neg (show ¬ (sl.getD N.toNat sz).1 = 3 by rw [e2]; decide), e1, e2]
        simp only [beq_self_eq_true, cond_true]
        rw [show n + 3 = (n + 2) + 1 from rfl, f12o_77_eq]
        exact hsame _ rfl
      · rw [if_neg (show ¬ (sl.getD N.toNat sz).1 = 3 by rw [e2]; decide), e1, e2]
        simp only [show ((2 : Int) == 0) = false from rfl, cond_false]
        rw [show n + 3 = (n + 2) + 1 from rfl, f12o_77_eq]
        exact hsame _ rfl
      · rw [if_pos e2, e1]
        simp only [show ((3 : Int) == 0) = false from rfl, cond_false]
        rw [show n + 3 = (n + 2) + 1 from rfl, f12o_77_eq, e3, decide_eq_true (show (0 : Int) ≤ N ∧ N < ((16 : Nat) : Int) by omega)]
        simp only [bne_self_eq_false, cond_false, cond_true, beq_self_eq_true, Bool.and_self]
        refine ⟨a, t, S.set N.toNat 0, C, F, sl.set N.toNat (1, (sl.getD N.toNat sz).2.1, gz), log, hA.turn N.toNat (by rw [List.length_set]; exact hA.hs) hA.hc hA.hf (by rw [List.length_set]; exact hA.hl)
          (fun j hne => ⟨getD_set_ne hne.symm, rfl, rfl, getD_set_ne hne.symm⟩) ?_, h0, ha, by omega, .inl rfl⟩
        rw [getD_set_self (by rw [hA.hs]; exact hj), getD_set_self (by rw [hA.hl]; exact hj)]
        exact .inl ⟨rfl, rfl⟩
    · simp only [if_neg h, Option.bind_some, decide_eq_false h, Bool.not_false, cond_true]
      exact hsame _ rfl
  · simp only [beq_false_of_ne k0, beq_false_of_ne k1, beq_false_of_ne k2, beq_false_of_ne k3, beq_false_of_ne k4, beq_false_of_ne k5, cond_false, f22o_eq, clone_prog _ l hl, clone_log _ log hlog, Option.bind_some]
    rw [go_step _ l a t sl log h0 ha hl]
    by_cases h : a < (l.length : Int)
    · rw [if_pos h]
      simp only [Option.bind_some, use_step, if_pos (show (0 : Int) ≤ 9 ∧ (9 : Int) ≤ 1024 by decide), put_slot _ _ _ _ _ _ _ _ hA.hl]
      exact ⟨a, t, S, C, F, sl, log, hA, h0, ha, by omega, .inr ⟨_, _, rfl⟩⟩
    · rw [if_neg h]
      simp only [Option.bind_some, use_step, if_pos (show (0 : Int) ≤ 9 ∧ (9 : Int) ≤ 1024 by decide), put_slot _ _ _ _ _ _ _ _ hA.hl]
      exact ⟨a, t, S, C, F, sl, log, hA, h0, ha, by omega, .inr ⟨_, _, rfl⟩⟩
/-! ### all that is done -/
theorem log_same (n : Nat) (L : List Got) (hL : L.length ≤ 1800000000000) (l : List Do) (a t : Int) (X : List Int × List Int × List Got) : ∀ (k i m : Nat), i + k = L.length → k < m → f4_44 n m i a t X l L L = some true := by
  intro k
  induction k with
  | zero =>
    intro i m hi hm
    obtain ⟨m, rfl⟩ : ∃ q, m = q + 1 := ⟨m - 1, by omega⟩
    rw [f4_44_eq, decide_eq_false (show ¬ (i : Int) < (L.length : Int) by omega)]
    rfl
  | succ k ih =>
    intro i m hi hm
    obtain ⟨m, rfl⟩ : ∃ q, m = q + 1 := ⟨m - 1, by omega⟩
    rw [f4_44_eq, decide_eq_true (show (i : Int) < (L.length : Int) by omega), decide_eq_true (show (0 : Int) ≤ (i : Int) ∧ (i : Int) < (L.length : Int) by omega), wI (n := (i : Int) + 1) (by omega) (by omega)]
    simp only [beq_self_eq_true, Bool.and_self, Bool.not_true, cond_true, cond_false]
    exact ih (i + 1) m (by omega) (by omega)
theorem str_refl (b : ByteArray) : (b == b) = true := (eqB b b).trans (decide_eq_true rfl)
theorem empty_refl : (ByteArray.empty == ByteArray.empty) = true := str_refl _
/-- Behind each thing done the client says what it must. -/
theorem says (n m : Nat) (acts : List Act) (i : Int) (l : List Do) (hl : l.length ≤ 256) (a t : Int) (h0 : 0 ≤ a) (ha : a ≤ (l.length : Int)) (S C : List Int) (F : List Got) (sl : List Slot) (log : List Got) (y : Bool) (x66 : List Act) (x67 : Int) (x69 : Act)
    (q1 q2 : Int) (q3 : List Int × List Int × List Got) (q4 : Bool) :
    f4_23 n (m + 2) acts i true y x66 x67 x69 q1 q2 q3 q4 a t (S, C, F) l l a t sl log log = f4_1000014 n m acts (IntKind.i64.wrap (i + 1)) a t (S, C, F) l l a t sl log log := by
  rw [show m + 2 = (m + 1) + 1 from rfl, f4_23_eq, f13o_eq]
  simp only [Bool.not_true, cond_false]
  by_cases h : a < (l.length : Int)
  · rw [decide_eq_false (show ¬ a ≥ (l.length : Int) by omega), decide_eq_true (show 0 ≤ a ∧ a < (l.length : Int) from ⟨h0, h⟩)]
    simp only [cond_true, cond_false, Option.bind_some]
    rw [f4_29_eq, decide_eq_true h, decide_eq_true (show 0 ≤ a ∧ a < (l.length : Int) from ⟨h0, h⟩), f14o_eq]
    simp only [beq_self_eq_true, str_refl, Bool.and_self, Bool.not_true, bne_self_eq_false, cond_true, cond_false, Option.bind_some, show (false == true) = false from rfl]
  · rw [decide_eq_true (show a ≥ (l.length : Int) by omega)]
    simp only [cond_true, Option.bind_some]
    rw [f4_29_eq, decide_eq_false h, f14o_eq]
    simp only [beq_self_eq_true, empty_refl, Bool.and_self, Bool.not_true, Bool.not_false, bne_self_eq_false, cond_true, cond_false, Option.bind_some, show (true == false) = false from rfl]
theorem all_acts (n : Nat) (hn : 4 ≤ n) (acts : List Act) (hacts : acts.length ≤ 1790000000000) (l : List Do) (hl : l.length ≤ 256) :
    ∀ (k i m : Nat) (a t : Int) (S C : List Int) (F : List Got) (sl : List Slot) (log : List Got), i + k = acts.length → log.length ≤ i → 3 * k + acts.length + 3 < m → 0 ≤ a → a ≤ (l.length : Int) → Agrees S C F sl →
      f4_1000014 n m acts i a t (S, C, F) l l a t sl log log = some true := by
  intro k
  induction k with
  | zero =>
    intro i m a t S C F sl log hi hlog hm h0 ha hA
    obtain ⟨m, rfl⟩ : ∃ q, m = q + 1 := ⟨m - 1, by omega⟩
    rw [f4_1000014_eq, decide_eq_false (show ¬ (i : Int) < (acts.length : Int) by omega), f15o_eq, clone_log _ log (by omega)]
    simp only [cond_false, Option.bind_some, bne_self_eq_false]
    exact log_same n log (by omega) l a t (S, C, F) log.length 0 m (by omega) (by omega)
  | succ k ih =>
    intro i m a t S C F sl log hi hlog hm h0 ha hA
    obtain ⟨m, rfl⟩ : ∃ q, m = q + 2 + 1 := ⟨m - 3, by omega⟩
    rw [f4_1000014_eq, decide_eq_true (show (i : Int) < (acts.length : Int) by omega), decide_eq_true (show (0 : Int) ≤ (i : Int) ∧ (i : Int) < (acts.length : Int) by omega)]
    simp only [cond_true]
    obtain ⟨a', t', S', C', F', sl', log', hA', h0', ha', hlog', h | ⟨g1, g2, h⟩⟩ := one_step n hn l hl a t h0 ha S C F sl hA log (by omega) (acts.getD (i : Int).toNat az)
    · rw [h]
      simp only [Option.bind_some, Sum.elim_inl]
      rw [says n m acts i l hl a' t' h0' ha' S' C' F' sl' log', wI (n := (i : Int) + 1) (by omega) (by omega)]
      exact ih (i + 1) m a' t' S' C' F' sl' log' (by omega) (by omega) (by omega) h0' ha' hA'
    · rw [h]
      simp only [Option.bind_some, Sum.elim_inr]
      rw [says n m acts i l hl a' t' h0' ha' S' C' F' sl' log', wI (n := (i : Int) + 1) (by omega) (by omega)]
      exact ih (i + 1) m a' t' S' C' F' sl' log' (by omega) (by omega) (by omega) h0' ha' hA'
/-- A new client. -/
theorem new_loop (n : Nat) (l : List Do) (g : List Got) : ∀ (k m : Nat) (i : Nat) (b : List Slot), i + k = 16 → k < m → b.length = 16 → (∀ j, j < i → (b.getD j sz).1 = 1) →
    ∃ b', b'.length = 16 ∧ (∀ j, j < 16 → (b'.getD j sz).1 = 1) ∧ f9o_12 n m i l 0 0 b g = some (Sum.inr ((((), (0 : Int), (0 : Int)), ((l, (0, (0, ((), b')))), g, ())))) := by
  intro k
  induction k with
  | zero =>
    intro m i b hi hm hb hall
    obtain ⟨m, rfl⟩ : ∃ m', m = m' + 1 := ⟨m - 1, by omega⟩
    refine ⟨b, hb, fun j hj => hall j (by omega), ?_⟩
    rw [f9o_12_eq, decide_eq_false (show ¬ (i : Int) < 16 by omega)]
    rfl
  | succ k ih =>
    intro m i b hi hm hb hall
    obtain ⟨m, rfl⟩ : ∃ m', m = m' + 1 := ⟨m - 1, by omega⟩
    rw [f9o_12_eq, decide_eq_true (show (i : Int) < 16 by omega), decide_eq_true (show (0 : Int) ≤ (i : Int) ∧ (i : Int) < ((16 : Nat) : Int) by omega), wI (n := (i : Int) + 1) (by omega) (by omega)]
    simp only [cond_true, Int.toNat_natCast]
    refine ih m (i + 1) _ (by omega) (by omega) (by rw [List.length_set]; exact hb) fun j hj => ?_
    by_cases e : j = i
    · subst e; rw [getD_set_self (by omega)]
    · rw [getD_set_ne (fun e' => e e'.symm)]
      exact hall j (by omega)
theorem plays (n : Nat) (l : List Do) (hl : l.length ≤ 2932031007317) (acts : List Act) (hacts : acts.length ≤ 1790000000000) (hn : l.length + 5 * acts.length + 100 ≤ n) : f4 n l acts = some true := by
  obtain ⟨r, c1, c2, c3⟩ := checks_same n l (by omega) hl
  rw [f4_eq, f9o_eq, c1]
  simp only [Option.bind_some]
  have hbig : decide (((0 : Nat) + l.length) * 48 ≤ Go.Rf.maxBytes) = true := decide_eq_true (by show (0 + l.length) * 48 ≤ 140737488355328; omega)
  by_cases h : r.2 = 0
  · obtain ⟨hr1, hl2⟩ := c3 h
    rw [show (r.2 != 0) = false by rw [h]; rfl, clone_prog n l hl2]
    simp only [cond_false, Option.bind_some]
    obtain ⟨b', hb, hall, e⟩ := new_loop n l [] 16 n 0 (List.replicate 16 sz) (by omega) (by omega) (by simp) (fun j hj => by omega)
    have e' : f9o_12 n n 0 l 0 0 (List.replicate (16 : Nat) sz) [] = some (Sum.inr ((((), (0 : Int), (0 : Int)), ((l, (0, (0, ((), b')))), [], ())))) := e
    rw [e']
    simp only [Option.bind_some, Sum.elim_inr, ref_self n l hl (by omega), c2, f8_true n (by omega), Bool.not_true, cond_false, hbig, cond_true, hr1, h, bne_self_eq_false, beq_self_eq_true, List.nil_append]
    have hA : Agrees (List.replicate 16 (0 : Int)) (List.replicate 16 (0 : Int)) (List.replicate 16 gz) b' := by
      refine ⟨by simp, by simp, by simp, hb, fun j hj => .inl ⟨?_, hall j hj⟩⟩
      rw [List.getD_eq_getElem?_getD, List.getElem?_replicate, if_pos hj]
      rfl
    exact all_acts n (by omega) acts hacts l hl2 acts.length 0 n 0 0 _ _ _ b' [] (by omega) (by simp) (by omega) (by omega) (by omega) hA
  · rw [show (r.2 != 0) = true by simpa using h]
    simp only [cond_true, Option.bind_some, Sum.elim_inl, ref_self n l hl (by omega), c2, f8_true n (by omega), Bool.not_true, cond_false, bne_self_eq_false, hbig, beq_false_of_ne h, beq_self_eq_true]
    obtain ⟨m, rfl⟩ : ∃ m, n = m + 1 := ⟨n - 1, by omega⟩
    rw [f4_14_eq]
    cases decide ((0 : Int) < (acts.length : Int)) <;> rfl
end Go.Proofs.YthpcpofcadpijaaDoor
