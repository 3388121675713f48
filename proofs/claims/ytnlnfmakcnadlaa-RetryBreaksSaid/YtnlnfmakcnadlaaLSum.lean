/- Sums and ages: what the program's and the document's functions tell is one and the same. -/
import Derived.Test.YtnlnfmakcnadlaaL0
import Derived.Test.YtnlnfmakcnadlaaGa
namespace Go.Proofs.Ytnlnfmakcnadlaa
open Go.Rf
/-- One more time is added to a sum of two words. -/
def addS (s : Int × Int) (x : Int) : Int × Int := (IntKind.u64.wrap (s.1 + (s.2 + x) / 18446744073709551616), (s.2 + x) % 18446744073709551616)
/-- The sum as the document tells it. -/
def sumS (l : List Int) : Int × Int × Int :=
  bif l.any fun x => decide (x < 0) then (0, 0, 11) else ((l.foldl addS (0, 0)).1, (l.foldl addS (0, 0)).2, 0)
theorem addS_ok (s : Int × Int) (x : Int) : u64 (addS s x).2 := by
  unfold addS
  constructor <;> simp only <;> omega
theorem sum_loop {l : List Int} (hl : l.length ≤ maxLen) (hw : ∀ x ∈ l, i64 x) (n : Nat) : ∀ (k : Nat) (i : Nat) (m : Nat) (s : Int × Int), l.length - i = k → i ≤ l.length → k < m → u64 s.2 →
    f35_6 n m s.1 s.2 l l.length i = some (bif (l.drop i).any fun x => decide (x < 0) then (0, 0, 11) else (((l.drop i).foldl addS s).1, ((l.drop i).foldl addS s).2, 0)) := by
  rw [maxLen_eq] at hl
  intro k
  induction k with
  | zero =>
    intro i m s hk hi hm hs
    obtain ⟨m, rfl⟩ : ∃ q, m = q + 1 := ⟨m - 1, by omega⟩
    have : i = l.length := by omega
    subst this
    rw [f35_6_eq]
    simp
  | succ k ih =>
    intro i m s hk hi hm hs
    obtain ⟨m, rfl⟩ : ∃ q, m = q + 1 := ⟨m - 1, by omega⟩
    have hi' : i < l.length := by omega
    have hx : i64 (l.getD i 0) := hw _ (getD_mem hi')
    rw [f35_6_eq, getD_drop (d := 0) hi']
    rw [decide_eq_true (show (i : Int) < (l.length : Int) by omega), decide_eq_true (show (0 : Int) ≤ (i : Int) ∧ (i : Int) < (l.length : Int) by omega)]
    simp only [cond_true, Int.toNat_natCast, List.any_cons, List.foldl_cons]
    by_cases h : l.getD i 0 < 0
    · rw [decide_eq_true h]; simp
    · rw [decide_eq_false h]
      simp only [cond_false, Bool.false_or]
      rw [wU (n := l.getD i 0) (by omega) (by omega), wI (n := (i : Int) + 1) (by omega) (by omega)]
      unfold f75 add64
      rw [decide_eq_true (show 0 ≤ s.2 ∧ 0 ≤ l.getD i 0 ∧ (0 : Int) ≤ 0 ∧ (0 : Int) ≤ 1 by omega)]
      simp only [cond_true, Option.bind_some, Int.add_zero]
      have := ih (i + 1) m (addS s (l.getD i 0)) (by omega) (by omega) (by omega) (addS_ok _ _)
      rw [show ((i + 1 : Nat) : Int) = (i : Int) + 1 by omega] at this
      exact this
theorem sum_go {l : List Int} (hl : l.length ≤ maxLen) (hw : ∀ x ∈ l, i64 x) {n : Nat} (hn : l.length < n) : f35 n l = some (sumS l) := by
  rw [f35_eq]
  have := sum_loop hl hw n l.length 0 n (0, 0) (by omega) (by omega) hn ⟨by decide, by decide⟩
  simpa [sumS] using this
theorem sum_ref1 {l : List Int} (hl : l.length ≤ maxLen) (n : Nat) (h l' : Int) : ∀ (k : Nat) (i : Nat) (m : Nat), l.length - i = k → i ≤ l.length → k < m →
    f36_6 n m l h l' i = bif (l.drop i).any fun x => decide (x < 0) then some (0, 0, 11) else f36_16 n (m - k - 1) l h l' 0 := by
  rw [maxLen_eq] at hl
  intro k
  induction k with
  | zero =>
    intro i m hk hi hm
    obtain ⟨m, rfl⟩ : ∃ q, m = q + 1 := ⟨m - 1, by omega⟩
    have : i = l.length := by omega
    subst this
    rw [f36_6_eq]
    simp
  | succ k ih =>
    intro i m hk hi hm
    obtain ⟨m, rfl⟩ : ∃ q, m = q + 1 := ⟨m - 1, by omega⟩
    have hi' : i < l.length := by omega
    rw [f36_6_eq, getD_drop (d := 0) hi']
    rw [decide_eq_true (show (i : Int) < (l.length : Int) by omega), decide_eq_true (show (0 : Int) ≤ (i : Int) ∧ (i : Int) < (l.length : Int) by omega)]
    simp only [cond_true, Int.toNat_natCast, List.any_cons]
    by_cases h : l.getD i 0 < 0
    · rw [decide_eq_true h]; simp
    · rw [decide_eq_false h]
      simp only [cond_false, Bool.false_or]
      rw [wI (n := (i : Int) + 1) (by omega) (by omega)]
      have := ih (i + 1) m (by omega) (by omega) (by omega)
      rw [show ((i + 1 : Nat) : Int) = (i : Int) + 1 by omega] at this
      rw [this]
      rw [show m + 1 - (k + 1) - 1 = m - k - 1 by omega]
theorem sum_ref2 {l : List Int} (hl : l.length ≤ maxLen) (hw : ∀ x ∈ l, i64 x) (hp : ∀ x ∈ l, 0 ≤ x) (n : Nat) : ∀ (k : Nat) (i : Nat) (m : Nat) (s : Int × Int), l.length - i = k → i ≤ l.length → k < m → u64 s.1 → u64 s.2 →
    f36_16 n m l s.1 s.2 i = some (((l.drop i).foldl addS s).1, ((l.drop i).foldl addS s).2, 0) := by
  rw [maxLen_eq] at hl
  intro k
  induction k with
  | zero =>
    intro i m s hk hi hm _ hs
    obtain ⟨m, rfl⟩ : ∃ q, m = q + 1 := ⟨m - 1, by omega⟩
    have : i = l.length := by omega
    subst this
    rw [f36_16_eq]
    simp
  | succ k ih =>
    intro i m s hk hi hm hs1 hs
    obtain ⟨m, rfl⟩ : ∃ q, m = q + 1 := ⟨m - 1, by omega⟩
    have hi' : i < l.length := by omega
    have hx : i64 (l.getD i 0) := hw _ (getD_mem hi')
    have hx0 : 0 ≤ l.getD i 0 := hp _ (getD_mem hi')
    rw [f36_16_eq, getD_drop (d := 0) hi']
    rw [decide_eq_true (show (i : Int) < (l.length : Int) by omega), decide_eq_true (show (0 : Int) ≤ (i : Int) ∧ (i : Int) < (l.length : Int) by omega)]
    simp only [cond_true, Int.toNat_natCast, List.foldl_cons]
    simp only [wU (n := l.getD i 0) (by omega) (by omega), wI (n := (i : Int) + 1) (by omega) (by omega)]
    have key := ih (i + 1) m (addS s (l.getD i 0)) (by omega) (by omega) (by omega) (wU_u64 _) (addS_ok _ _)
    rw [show ((i + 1 : Nat) : Int) = (i : Int) + 1 by omega] at key
    rw [← key]
    generalize l.getD i 0 = x at hx hx0
    unfold addS
    simp only [wU_mod]
    by_cases h : s.2 + x < 18446744073709551616
    · rw [decide_eq_false (by omega), show s.1 + (s.2 + x) / 18446744073709551616 = s.1 by omega, Int.emod_eq_of_lt hs1.1 (by omega)]
      rfl
    · rw [decide_eq_true (by omega), show s.1 + (s.2 + x) / 18446744073709551616 = s.1 + 1 by omega]
      rfl
theorem sum_ref {l : List Int} (hl : l.length ≤ maxLen) (hw : ∀ x ∈ l, i64 x) {n : Nat} (hn : 2 * l.length + 2 ≤ n) : f36 n l = some (sumS l) := by
  rw [f36_eq]
  have h1 := sum_ref1 hl n 0 0 l.length 0 n (by omega) (by omega) (by omega)
  rw [show ((0 : Nat) : Int) = 0 from rfl] at h1
  rw [h1]
  simp only [List.drop_zero, sumS]
  by_cases h : (l.any fun x => decide (x < 0)) = true
  · rw [h]; rfl
  · rw [Bool.eq_false_iff.2 h]
    simp only [cond_false]
    have hp : ∀ x ∈ l, 0 ≤ x := by
      intro x hx
      by_cases h2 : 0 ≤ x
      · exact h2
      · exfalso
        exact h (List.any_eq_true.2 ⟨x, hx, by simp; omega⟩)
    have := sum_ref2 hl hw hp n l.length 0 (n - l.length - 1) (0, 0) (by omega) (by omega) (by omega) ⟨by decide, by decide⟩ ⟨by decide, by decide⟩
    simpa using this
/-- The age is told alike. -/
def isT (t : Int) : Bool := decide (0 ≤ t ∧ t ≤ 4611686018427387904)
theorem is_go (n : Nat) (t : Int) : f27 n t = some (isT t) := by
  rw [f27_eq]; unfold isT
  by_cases h : t ≥ 0
  · rw [decide_eq_true h]; simp [h]
  · rw [decide_eq_false h]; simp; omega
theorem is_ref (n : Nat) (t : Int) : f28 n t = some (isT t) := by
  exact (f28_eq n t).trans ((f27_eq n t).symm.trans (is_go n t))
theorem age_alike (n : Nat) (a b : Int) : f22 n a b = f23 n a b := by
  rw [f22_eq, f23_eq]
  simp only [is_go, is_ref]
theorem age_some (n : Nat) (a b : Int) : ∃ r, f22 n a b = some r := by
  rw [f22_eq]
  simp only [is_go, Option.bind_some, cond_eq_ite]
  split
  · exact ⟨_, rfl⟩
  · split
    · exact ⟨_, rfl⟩
    · split <;> exact ⟨_, rfl⟩
theorem within_alike {n : Nat} {l : List Int} (hl : l.length ≤ maxLen) (hw : ∀ x ∈ l, i64 x) (hn : 2 * l.length + 2 ≤ n) (a b : Int) : f24 n a b l = f25 n a b l ∧ ∃ r, f24 n a b l = some r := by
  have e : f24 n a b l = f25 n a b l := by
    rw [f24_eq, f25_eq]
    simp only [age_alike, sum_go hl hw (show l.length < n by omega), sum_ref hl hw hn]
  refine ⟨e, ?_⟩
  obtain ⟨r, hr⟩ := age_some n a b
  rw [f24_eq, hr, sum_go hl hw (show l.length < n by omega)]
  simp only [Option.bind_some, cond_eq_ite]
  split
  · exact ⟨_, rfl⟩
  · split
    · exact ⟨_, rfl⟩
    · split <;> exact ⟨_, rfl⟩
theorem awake_tick (n : Nat) : f26 (n + 4) = some true := by kernel_rfl
theorem ticks_ages {n : Nat} {l : List Int} (hl : l.length ≤ maxLen) (hw : ∀ x ∈ l, i64 x) (hn : 2 * l.length + 2 ≤ n) (a b : Int) : f4 (n + 4) a b l = some true := by
  obtain ⟨h1, r, hr⟩ := within_alike hl hw (show 2 * l.length + 2 ≤ n + 4 by omega) a b
  obtain ⟨q, hq⟩ := age_some (n + 4) a b
  rw [f4_eq]
  simp only [← age_alike, ← h1, hr, hq, awake_tick, is_go, is_ref, Option.bind_some, cond_true, beq_self_eq_true]
end Go.Proofs.Ytnlnfmakcnadlaa
