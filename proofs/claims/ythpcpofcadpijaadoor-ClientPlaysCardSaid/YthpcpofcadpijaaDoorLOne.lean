/- One thing done to a client and to what it must be: both stay alike. -/
import Derived.Test.YthpcpofcadpijaaDoorLCheck
namespace Go.Proofs.YthpcpofcadpijaaDoor
open Go.Rf
abbrev Got := Int × (Int × ((Int × (Int × (Int × Int))) × Int))
abbrev gz : Got := (0, 0, (0, 0, 0, 0), 0)
abbrev Slot := Int × (Int × Got)
abbrev sz : Slot := (0, 0, gz)
abbrev Act := Int × (Int × (Int × Got))
abbrev az : Act := (0, 0, 0, gz)
/-! ### failures -/
theorem fails (n : Nat) (k c r : Int) : ∃ m : Bool, f51 n (k, c, r) = some (if m = true then 0 else 30) ∧ f68 n (k, c, r) = some m ∧ (k = 0 → m = (c == 0 && r == 0)) ∧ (k ≠ 0 → m = true → True) := by
  rw [f51_eq, f68_eq]
  by_cases h0 : k = 0
  · subst h0
    refine ⟨c == 0 && r == 0, ?_, ?_, fun _ => rfl, fun _ _ => trivial⟩
    · simp only
      generalize (c == (0 : Int)) = x
      generalize (r == (0 : Int)) = y
      cases x <;> cases y <;> rfl
    · simp only
      generalize (c == (0 : Int)) = x
      generalize (r == (0 : Int)) = y
      cases x <;> cases y <;> rfl
  by_cases h1 : k = 1
  · subst h1
    refine ⟨decide (r ≥ 1), ?_, ?_, fun h => absurd h (by decide), fun _ _ => trivial⟩
    · simp only
      generalize decide (r ≥ (1 : Int)) = x
      cases x <;> rfl
    · rfl
  by_cases h2 : k = 2
  · subst h2
    refine ⟨decide (r ≥ 1), ?_, ?_, fun h => absurd h (by decide), fun _ _ => trivial⟩
    · simp only
      generalize decide (r ≥ (1 : Int)) = x
      cases x <;> rfl
    · rfl
  by_cases h3 : k = 3
  · subst h3
    refine ⟨c == 0 && r == 0, ?_, ?_, fun h => absurd h (by decide), fun _ _ => trivial⟩
    · simp only
      generalize (c == (0 : Int)) = x
      generalize (r == (0 : Int)) = y
      cases x <;> cases y <;> rfl
    · simp only
      generalize (c == (0 : Int)) = x
      generalize (r == (0 : Int)) = y
      cases x <;> cases y <;> rfl
  by_cases h4 : k = 4
  · subst h4
    refine ⟨c == 0 && r == 0, ?_, ?_, fun h => absurd h (by decide), fun _ _ => trivial⟩
    · simp only
      generalize (c == (0 : Int)) = x
      generalize (r == (0 : Int)) = y
      cases x <;> cases y <;> rfl
    · simp only
      generalize (c == (0 : Int)) = x
      generalize (r == (0 : Int)) = y
      cases x <;> cases y <;> rfl
  by_cases h5 : k = 5
  · subst h5
    refine ⟨c == 0 && decide (r ≥ 1), ?_, ?_, fun h => absurd h (by decide), fun _ _ => trivial⟩
    · simp only
      generalize (c == (0 : Int)) = x
      generalize decide (r ≥ (1 : Int)) = y
      cases x <;> cases y <;> rfl
    · simp only
      generalize (c == (0 : Int)) = x
      generalize decide (r ≥ (1 : Int)) = y
      cases x <;> cases y <;> rfl
  simp only [beq_false_of_ne h0, beq_false_of_ne h1, beq_false_of_ne h2, beq_false_of_ne h3, beq_false_of_ne h4, beq_false_of_ne h5, cond_false]
  exact ⟨false, rfl, rfl, fun h => (h0 h).elim, fun _ _ => trivial⟩
/-- Which outcomes may be: both tell the same. -/
theorem right_same (n : Nat) (v k c r : Int) : ∃ b, f38 n (v, k, c, r) = some b ∧ f49 n v (k, c, r) = some b := by
  obtain ⟨m, h1, h2, h3, _⟩ := fails n k c r
  rw [f38_eq, f49_eq, h1, h2]
  simp only [Option.bind_some]
  cases m with
  | false => exact ⟨false, rfl, rfl⟩
  | true =>
    simp only [if_true, beq_self_eq_true, cond_true]
    generalize (k == (0 : Int) && (c == (0 : Int) && r == (0 : Int))) = y
    cases (v == (0 : Int)) <;> cases y <;> exact ⟨_, rfl, rfl⟩
/-- Which things a client may have had. -/
theorem may_had (n : Nat) (l : List Do) (a t : Int) (L : List Got) (S C : List Int) (F : List Got) (g : Got) :
    ∃ b, f34 n (l, a, t, L, S, C, F) g = some b ∧ ∀ (tk : Int) (sl : List Slot) (log : List Got), log.length ≤ 1800000000000 →
      f19o n g l a tk sl log = some (if b = true then (((0 : Int), ((l, (a, (tk, ((), sl)))), log ++ [g], ()))) else (((1 : Int), ((l, (a, (tk, ((), sl)))), log, ())))) := by
  obtain ⟨b, e1, e2⟩ := right_same n g.2.2.1.1 g.2.2.1.2.1 g.2.2.1.2.2.1 g.2.2.1.2.2.2
  have e1' : f38 n g.2.2.1 = some b := e1
  have e2' : f49 n g.2.2.1.1 g.2.2.1.2 = some b := e2
  rw [f34_eq]
  simp only [f19o_eq, f37_eq, f50_eq]
  by_cases h1 : g.1 < 0
  · refine ⟨false, ?_, fun tk sl log _ => ?_⟩
    · rw [decide_eq_false (show ¬ g.1 ≥ 0 by omega)]; rfl
    · rw [decide_eq_true h1]; rfl
  by_cases h2 : g.1 ≥ (l.length : Int)
  · refine ⟨false, ?_, fun tk sl log _ => ?_⟩
    · rw [decide_eq_true (show g.1 ≥ 0 by omega), decide_eq_false (show ¬ g.1 < (l.length : Int) by omega)]; rfl
    · rw [decide_eq_false h1, decide_eq_true h2]; rfl
  rw [decide_eq_true (show g.1 ≥ 0 by omega), decide_eq_true (show g.1 < (l.length : Int) by omega)]
  simp only [decide_eq_false h1, decide_eq_false h2, cond_true, cond_false]
  by_cases h3 : g.2.1 ≥ 0
  · by_cases h4 : g.2.1 ≤ 6
    · by_cases h5 : g.2.2.2 ≥ 0
      · by_cases h6 : g.2.2.2 ≤ 4611686018427387904
        · simp only [decide_eq_true h3, decide_eq_true h4, decide_eq_true h5, decide_eq_true h6, cond_true, Option.bind_some, Bool.not_true, cond_false, e1', e2']
          refine ⟨b, rfl, fun tk sl log hlog => ?_⟩
          rw [decide_eq_true (show (log.length + [g].length) * 56 ≤ Go.Rf.maxBytes by show (log.length + 1) * 56 ≤ 140737488355328; omega)]
          cases b <;> rfl
        · simp only [decide_eq_true h3, decide_eq_true h4, decide_eq_true h5, decide_eq_false h6, cond_true, Option.bind_some, Bool.not_false]
          exact ⟨false, rfl, fun _ _ _ _ => rfl⟩
      · simp only [decide_eq_true h3, decide_eq_true h4, decide_eq_false h5, cond_true, cond_false, Option.bind_some, Bool.not_false]
        exact ⟨false, rfl, fun _ _ _ _ => rfl⟩
    · simp only [decide_eq_true h3, decide_eq_false h4, cond_true, cond_false, Option.bind_some, Bool.not_false]
      exact ⟨false, rfl, fun _ _ _ _ => rfl⟩
  · simp only [decide_eq_false h3, cond_true, cond_false, Option.bind_some, Bool.not_false]
    exact ⟨false, rfl, fun _ _ _ _ => rfl⟩
/-! ### slots -/
def At (s c : Int) (f : Got) (v : Slot) : Prop := (s = 0 ∧ v.1 = 1) ∨ (s = 2 ∧ v.1 = 2 ∧ v.2.1 = c) ∨ (s = 3 ∧ v.1 = 3 ∧ v.2.2 = f)
structure Agrees (S C : List Int) (F : List Got) (sl : List Slot) : Prop where
  hs : S.length = 16
  hc : C.length = 16
  hf : F.length = 16
  hl : sl.length = 16
  all : ∀ j, j < 16 → At (S.getD j 0) (C.getD j 0) (F.getD j gz) (sl.getD j sz)
theorem getD_set_self {α : Type} {l : List α} {j : Nat} {a d : α} (h : j < l.length) : (l.set j a).getD j d = a := by
  rw [List.getD_eq_getElem?_getD, List.getElem?_set_self h]; rfl
theorem getD_set_ne {α : Type} {l : List α} {i j : Nat} {a d : α} (h : i ≠ j) : (l.set i a).getD j d = l.getD j d := by
  rw [List.getD_eq_getElem?_getD, List.getElem?_set_ne h, ← List.getD_eq_getElem?_getD]
theorem f36o_slot (n : Nat) (N : Int) (l : List Do) (a t : Int) (sl : List Slot) (log : List Got) :
    f36o n N l a t sl log = some ((if 0 ≤ N ∧ N < 16 then 0 else 211, ((l, (a, (t, ((), sl)))), log, ()))) := by
  rw [f36o_eq]
  by_cases h : N < 0
  · rw [decide_eq_true h, if_neg (by omega)]; rfl
  · rw [decide_eq_false h]
    by_cases h2 : N ≥ 16
    · rw [decide_eq_true h2, if_neg (by omega)]; rfl
    · rw [decide_eq_false h2, if_pos (by omega)]; rfl
theorem put_slot (n : Nat) (N caller : Int) (l : List Do) (a t : Int) (sl : List Slot) (log : List Got) (hs : sl.length = 16) :
    f20o n N caller l a t sl log = some (if 0 ≤ N ∧ N < 16 then (if 1 ≤ caller then (((0 : Int), ((l, (a, (t, ((), sl.set N.toNat (2, caller, gz))))), log, ()))) else (((1 : Int), ((l, (a, (t, ((), sl)))), log, ())))) else (((211 : Int), ((l, (a, (t, ((), sl)))), log, ())))) := by
  rw [f20o_eq, f36o_slot]
  simp only [Option.bind_some]
  by_cases h : 0 ≤ N ∧ N < 16
  · simp only [if_pos h]
    by_cases h1 : 1 ≤ caller
    · rw [if_pos h1, decide_eq_false (show ¬ caller < 1 by omega), decide_eq_true (show (0 : Int) ≤ N ∧ N < ((16 : Nat) : Int) by omega)]
      have hj : N.toNat < sl.length := by omega
      simp only [bne_self_eq_false, cond_false, cond_true, getD_set_self, List.length_set, hj, List.set_set]
    · rw [if_neg h1, decide_eq_true (show caller < 1 by omega)]; rfl
  · simp only [if_neg h]; rfl
theorem fill_slot (n : Nat) (N caller : Int) (g : Got) (l : List Do) (a t : Int) (sl : List Slot) (log : List Got) (hs : sl.length = 16) :
    f21o n N caller g l a t sl log = some (if 0 ≤ N ∧ N < 16 ∧ (sl.getD N.toNat sz).1 = 2 ∧ (sl.getD N.toNat sz).2.1 = caller then ((true, ((l, (a, (t, ((), sl.set N.toNat (3, (sl.getD N.toNat sz).2.1, g))))), log, ()))) else ((false, ((l, (a, (t, ((), sl)))), log, ())))) := by
  rw [f21o_eq, f36o_slot]
  simp only [Option.bind_some]
  by_cases h : 0 ≤ N ∧ N < 16
  · simp only [if_pos h]
    rw [decide_eq_true (show (0 : Int) ≤ N ∧ N < ((16 : Nat) : Int) by omega)]
    have hj : N.toNat < sl.length := by omega
    by_cases h1 : (sl.getD N.toNat sz).1 = 2
    · by_cases h2 : (sl.getD N.toNat sz).2.1 = caller
      · rw [if_pos ⟨h.1, h.2, h1, h2⟩]
        simp only [bne_self_eq_false, cond_false, cond_true, getD_set_self hj, List.set_set]
        rw [show ((sl.getD N.toNat sz).fst != 2) = false by rw [h1]; rfl, show ((sl.getD N.toNat sz).snd.fst != caller) = false by rw [h2]; simp]
        rfl
      · rw [if_neg (fun hh => h2 hh.2.2.2)]
        simp only [bne_self_eq_false, cond_false, cond_true]
        rw [show ((sl.getD N.toNat sz).fst != 2) = false by rw [h1]; rfl, show ((sl.getD N.toNat sz).snd.fst != caller) = true by simpa using h2]
        rfl
    · rw [if_neg (fun hh => h1 hh.2.2.1)]
      simp only [bne_self_eq_false, cond_false, cond_true]
      rw [show ((sl.getD N.toNat sz).fst != 2) = true by simpa using h1]
      rfl
  · simp only [if_neg h]
    rw [if_neg (fun hh => h ⟨hh.1, hh.2.1⟩)]
    rfl
theorem take_slot (n : Nat) (N : Int) (l : List Do) (a t : Int) (sl : List Slot) (log : List Got) (hs : sl.length = 16) :
    f16o n N l a t sl log = some (if 0 ≤ N ∧ N < 16 then (if (sl.getD N.toNat sz).1 = 3 then ((((sl.getD N.toNat sz).2.2, (3 : Int), (0 : Int)), ((l, (a, (t, ((), sl.set N.toNat (1, (sl.getD N.toNat sz).2.1, gz))))), log, ()))) else (((gz, (sl.getD N.toNat sz).1, (0 : Int)), ((l, (a, (t, ((), sl)))), log, ())))) else (((gz, (0 : Int), (211 : Int)), ((l, (a, (t, ((), sl)))), log, ())))) := by
  rw [f16o_eq, f36o_slot]
  simp only [Option.bind_some]
  by_cases h : 0 ≤ N ∧ N < 16
  · simp only [if_pos h]
    rw [decide_eq_true (show (0 : Int) ≤ N ∧ N < ((16 : Nat) : Int) by omega)]
    have hj : N.toNat < sl.length := by omega
    by_cases h1 : (sl.getD N.toNat sz).1 = 3
    · rw [if_pos h1]
      simp only [bne_self_eq_false, cond_false, cond_true, getD_set_self hj, List.set_set]
      rw [show ((sl.getD N.toNat sz).fst != 3) = false by rw [h1]; rfl]
      rfl
    · rw [if_neg h1]
      simp only [bne_self_eq_false, cond_false, cond_true]
      rw [show ((sl.getD N.toNat sz).fst != 3) = true by simpa using h1]
      rfl
  · simp only [if_neg h]
    rfl
theorem go_step (n : Nat) (l : List Do) (a t : Int) (sl : List Slot) (log : List Got) (h0 : 0 ≤ a) (h1 : a ≤ (l.length : Int)) (hl : l.length ≤ 256) :
    f17o n l a t sl log = some (if a < (l.length : Int) then ((true, ((l, (a + 1, (t, ((), sl)))), log, ()))) else ((false, ((l, (a, (t, ((), sl)))), log, ())))) := by
  rw [f17o_eq, f13o_eq]
  by_cases h : a < (l.length : Int)
  · rw [decide_eq_false (show ¬ a ≥ (l.length : Int) by omega), decide_eq_true (show 0 ≤ a ∧ a < (l.length : Int) from ⟨h0, h⟩), if_pos h]
    simp only [cond_true, cond_false, Option.bind_some]
    rw [wI (n := a + 1) (by omega) (by omega)]
  · rw [decide_eq_true (show a ≥ (l.length : Int) by omega), if_neg h]
    rfl
theorem use_step (n : Nat) (N : Int) (l : List Do) (a t : Int) (sl : List Slot) (log : List Got) :
    f18o n N l a t sl log = some (if 0 ≤ N ∧ N ≤ 1024 then (((0 : Int), ((l, (a, (N, ((), sl)))), log, ()))) else (((1 : Int), ((l, (a, (t, ((), sl)))), log, ())))) := by
  rw [f18o_eq]
  by_cases h : N < 0
  · rw [decide_eq_true h, if_neg (by omega)]; rfl
  · rw [decide_eq_false h]
    by_cases h2 : N > 1024
    · rw [decide_eq_true h2, if_neg (by omega)]; rfl
    · rw [decide_eq_false h2, if_pos (by omega)]; rfl
theorem clone_log (n : Nat) (log : List Got) (hlog : log.length ≤ 1800000000000) : f35o n log = some (((), (log, ()))) := by
  rw [f35o_eq, decide_eq_true (show (0 + log.length) * 56 ≤ Go.Rf.maxBytes by show (0 + log.length) * 56 ≤ 140737488355328; omega)]
  cases log with
  | nil => simp only [List.isEmpty_nil, cond_true, List.nil_append]; exact both_self _
  | cons g r => rfl
theorem clone_prog (n : Nat) (l : List Do) (hl : l.length ≤ 256) : f31 n l = some l := by
  rw [f31_eq, decide_eq_true (show (0 + l.length) * 48 ≤ Go.Rf.maxBytes by show (0 + l.length) * 48 ≤ 140737488355328; omega)]
  cases l with
  | nil => simp only [List.isEmpty_nil, cond_true, List.nil_append]; exact both_self _
  | cons g r => rfl
theorem want_is (n : Nat) (ok : Bool) (e : Int) : f33 n ok e = some (if ok = true then 0 else e) := by
  rw [f33_eq]; cases ok <;> rfl
theorem got_refl (g : Got) : (g.fst == g.fst && (g.snd.fst == g.snd.fst && (g.snd.snd.fst.fst == g.snd.snd.fst.fst && (g.snd.snd.fst.snd.fst == g.snd.snd.fst.snd.fst && (g.snd.snd.fst.snd.snd.fst == g.snd.snd.fst.snd.snd.fst && g.snd.snd.fst.snd.snd.snd == g.snd.snd.fst.snd.snd.snd)) && g.snd.snd.snd == g.snd.snd.snd))) = true := by
  simp
end Go.Proofs.YthpcpofcadpijaaDoor
