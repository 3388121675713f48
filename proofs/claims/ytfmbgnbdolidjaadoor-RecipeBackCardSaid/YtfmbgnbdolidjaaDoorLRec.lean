/- Recipes: which may be, what a step does (how far it goes), the awake one. -/
import Derived.Test.YtfmbgnbdolidjaaDoorGb
import Derived.Test.YtfmbgnbdolidjaaDoorLLoop
namespace Go.Proofs.YtfmbgnbdolidjaaDoor
open Go.Rf
abbrev Step := Int × Int × Int
abbrev Around := (Int × ByteArray) × Int × Bool
abbrev Cook := Int × Int × Int × Int
abbrev s0 : Step := (0, 0, 0)
theorem mk_size (l : List Int) : (mkBytes l).size = l.length := by simp [mkBytes, ByteArray.size]
theorem told_some (n : Nat) {k : Int × ByteArray} (hk : k.2.size ≤ reachBytes) : ∃ s : ByteArray, f72 n k = some s ∧ s.size = 3 + k.2.size := by
  have hr : reachBytes = 140737488351232 := by decide
  rw [f72_eq, mk_size, decide_eq_false (by simp only [List.length_cons, List.length_nil]; show ¬ ((_ : Int) > 9223372036854775807); omega)]
  exact ⟨_, rfl, by rw [ByteArray.size_append, mk_size]; rfl⟩
theorem hash_loop (n : Nat) {s : ByteArray} (hs : s.size ≤ 4611686018427387904) : ∀ (k i m : Nat) (h : Int), i + k = s.size → k < m → ∃ r, f57_8 n m h s s.size i = some r := by
  intro k
  induction k with
  | zero =>
    intro i m h hi hm
    obtain ⟨m, rfl⟩ : ∃ q, m = q + 1 := ⟨m - 1, by omega⟩
    rw [f57_8_eq, decide_eq_false (show ¬ (i : Int) < (s.size : Int) by omega)]
    exact ⟨_, rfl⟩
  | succ k ih =>
    intro i m h hi hm
    obtain ⟨m, rfl⟩ : ∃ q, m = q + 1 := ⟨m - 1, by omega⟩
    rw [f57_8_eq, decide_eq_true (show (i : Int) < (s.size : Int) by omega), decide_eq_true (show (0 : Int) ≤ (i : Int) ∧ (i : Int) < (s.size : Int) by omega), wI (n := (i : Int) + 1) (by omega) (by omega)]
    have := ih (i + 1) m (IntKind.u64.wrap (IntKind.u64.wrap ↑(BitVec.ofInt 64 h ^^^ BitVec.ofInt 64 (IntKind.u64.wrap (byteAt s i))).toNat * 1099511628211)) (by omega) (by omega)
    rw [show ((i + 1 : Nat) : Int) = (i : Int) + 1 by omega] at this
    exact this
theorem hash_some {n : Nat} {k : Int × ByteArray} (hk : k.2.size ≤ reachBytes) (hn : k.2.size + 4 ≤ n) : ∃ r, f57 n k = some r := by
  have hr : reachBytes = 140737488351232 := by decide
  obtain ⟨s, h1, h2⟩ := told_some n hk
  rw [f57_eq, h1]
  have := hash_loop n (s := s) (by omega) s.size 0 n 14695981039346656037 (by omega) (by omega)
  exact this
theorem shift_some (n : Nat) (a b : Int) : ∃ r, f56 n a b = some r := by
  rw [f56_eq, decide_eq_false (show ¬ IntKind.u64.wrap (IntKind.i64.wrap (0 - b)) < 0 by have := (wU_u64 (IntKind.i64.wrap (0 - b))).1; omega), decide_eq_false (show ¬ IntKind.u64.wrap b < 0 by have := (wU_u64 b).1; omega)]
  by_cases h : b < 0
  · rw [decide_eq_true h]; exact ⟨_, rfl⟩
  · rw [decide_eq_false h]; exact ⟨_, rfl⟩
theorem turn_some (n : Nat) (a b : Int) : ∃ r, f58 n a b = some r := by
  rw [f58_eq, decide_eq_false (show ¬ IntKind.u64.wrap (64 - IntKind.u64.wrap ↑(BitVec.ofInt 64 (IntKind.u64.wrap b) &&& BitVec.ofInt 64 63).toNat) < 0 by
    have := (wU_u64 (64 - IntKind.u64.wrap ↑(BitVec.ofInt 64 (IntKind.u64.wrap b) &&& BitVec.ofInt 64 63).toNat)).1; omega)]
  exact ⟨_, rfl⟩
theorem work_some {n : Nat} {s : Step} {a : Int} {x : Around} (hk : x.1.2.size ≤ reachBytes) (hn : x.1.2.size + 4 ≤ n) : ∃ r, f44 n s a x = some r := by
  obtain ⟨r1, h1⟩ := shift_some n a s.2.1
  obtain ⟨r2, h2⟩ := hash_some hk hn
  obtain ⟨r3, h3⟩ := turn_some n (IntKind.u64.wrap a) s.2.1
  rw [f44_eq, h1, h2, h3]
  simp only [Option.bind_some]
  cases s.1 == 1 <;> cases s.1 == 2 <;> cases s.1 == 3 <;> cases s.1 == 4 <;> cases s.1 == 5 <;> exact ⟨_, rfl⟩
theorem skip_some (n : Nat) (A a : Int) (x : Around) : ∃ r, f43 n A a x = some r := by
  rw [f43_eq]
  cases A == 0 <;> cases A == 1 <;> cases A == 2 <;> exact ⟨_, rfl⟩
theorem is_some (n : Nat) (t : Int) : ∃ r, f45 n t = some r := by
  rw [f45_eq]
  cases decide (t ≥ 0) <;> exact ⟨_, rfl⟩
theorem after_some (n : Nat) (t d : Int) : ∃ r, f30 n t d = some r := by
  obtain ⟨r, h⟩ := is_some n t
  rw [f30_eq, h]
  simp only [Option.bind_some]
  cases !r <;> cases decide (d < 0) <;> cases decide (d > IntKind.i64.wrap (4611686018427387904 - t)) <;> exact ⟨_, rfl⟩
theorem cond_some {α : Type} {b : Bool} {t e : Option α} (h1 : ∃ r, t = some r) (h2 : ∃ r, e = some r) : ∃ r, (bif b then t else e) = some r := by
  cases b
  · exact h2
  · exact h1
/-- What a step may be. -/
theorem may_some (n : Nat) (s : Step) : ∃ r, f33 n s = some r := by
  obtain ⟨r, h⟩ := is_some n s.2.1
  rw [f33_eq, h]
  simp only [Option.bind_some]
  repeat' first | exact ⟨_, rfl⟩ | apply cond_some
theorem may_skip {n : Nat} {s : Step} (h : f33 n s = some true) (h9 : s.1 = 9) : 0 ≤ s.2.1 ∧ s.2.1 ≤ 3 ∧ 1 ≤ s.2.2 ∧ s.2.2 ≤ 256 := by
  rw [f33_eq, h9] at h
  have e : ∀ k : Int, k ≠ 9 → ((9 : Int) == k) = false := fun k hk => beq_false_of_ne (fun x => hk x.symm)
  rw [e 1 (by decide), e 11 (by decide), e 12 (by decide), e 2 (by decide), e 5 (by decide), e 6 (by decide), e 7 (by decide)] at h
  simp only [cond_false, beq_self_eq_true, cond_true] at h
  by_cases h1 : s.2.1 ≥ 0
  · rw [decide_eq_true h1] at h
    by_cases h2 : s.2.1 ≤ 3
    · rw [decide_eq_true h2] at h
      by_cases h3 : s.2.2 ≥ 1
      · rw [decide_eq_true h3] at h
        have h4 : decide (s.2.2 ≤ 256) = true := Option.some.inj h
        exact ⟨h1, h2, h3, of_decide_eq_true h4⟩
      · rw [decide_eq_false h3] at h; cases h
    · rw [decide_eq_false h2] at h; cases h
  · rw [decide_eq_false h1] at h; cases h
theorem find_loop (n : Nat) {l : List Step} (hl : l.length ≤ 256) : ∀ (k i m : Nat), i + k = l.length → k < m → ∃ r, f31a_4 n m l () l.length i = some r ∧ (r < 0 → ∀ s ∈ l.drop i, f33 n s = some true) := by
  intro k
  induction k with
  | zero =>
    intro i m hi hm
    obtain ⟨m, rfl⟩ : ∃ q, m = q + 1 := ⟨m - 1, by omega⟩
    rw [f31a_4_eq, decide_eq_false (show ¬ (i : Int) < (l.length : Int) by omega), List.drop_of_length_le (by omega)]
    exact ⟨_, rfl, fun _ s hs => by cases hs⟩
  | succ k ih =>
    intro i m hi hm
    obtain ⟨m, rfl⟩ : ∃ q, m = q + 1 := ⟨m - 1, by omega⟩
    have hi' : i < l.length := by omega
    obtain ⟨b, hb⟩ := may_some n (l.getD i s0)
    rw [f31a_4_eq, getD_drop (d := s0) hi', decide_eq_true (show (i : Int) < (l.length : Int) by omega), decide_eq_true (show (0 : Int) ≤ (i : Int) ∧ (i : Int) < (l.length : Int) by omega), wI (n := (i : Int) + 1) (by omega) (by omega)]
    simp only [cond_true, Int.toNat_natCast, f32_eq, hb, Option.bind_some]
    cases b with
    | true =>
      obtain ⟨r, h1, h2⟩ := ih (i + 1) m (by omega) (by omega)
      rw [show ((i + 1 : Nat) : Int) = (i : Int) + 1 by omega] at h1
      refine ⟨r, h1, fun hr s hs => ?_⟩
      rcases List.mem_cons.1 hs with e | hs
      · rw [e]; exact hb
      · exact h2 hr s hs
    | false => exact ⟨_, rfl, fun hr => by omega⟩
/-- What may be. -/
theorem check_go {n : Nat} (hn : 257 ≤ n) (l : List Step) : ∃ r, f16 n l = some r ∧ (r.2 = 0 → l.length ≤ 256 ∧ ∀ s ∈ l, f33 n s = some true) := by
  rw [f16_eq]
  by_cases h : (l.length : Int) > 256
  · rw [decide_eq_true h]
    exact ⟨_, rfl, fun h => by cases h⟩
  · rw [decide_eq_false h]
    obtain ⟨r, h1, h2⟩ := find_loop n (l := l) (by omega) l.length 0 n (by omega) (by omega)
    rw [show ((0 : Nat) : Int) = 0 from rfl] at h1
    rw [f31a_eq, h1]
    simp only [cond_false, Option.bind_some]
    by_cases h3 : r ≥ 0
    · rw [decide_eq_true h3]
      exact ⟨_, rfl, fun h => by cases h⟩
    · rw [decide_eq_false h3]
      exact ⟨_, rfl, fun _ => ⟨by omega, by simpa using h2 (by omega)⟩⟩
section
variable {n : Nat} {l : List Step} {x : Around}
theorem one_some (hlen : l.length ≤ 256) (hl : ∀ s ∈ l, s.1 = 9 → 1 ≤ s.2.2 ∧ s.2.2 ≤ 256) (hk : x.1.2.size ≤ reachBytes) (hn : x.1.2.size + 4 ≤ n) {c : Cook} (hc : 0 ≤ c.1 ∧ c.1 ≤ (l.length : Int)) :
    ∃ r, f29 n l c x = some r ∧ (r.2.2 = true ∨ (c.1 < r.1.1 ∧ r.1.1 ≤ (l.length : Int))) := by
  rw [f29_eq]
  by_cases h0 : c.1 = (l.length : Int)
  · rw [h0, beq_self_eq_true]
    exact ⟨_, rfl, .inl rfl⟩
  · have h1 : 0 ≤ c.1 ∧ c.1 < (l.length : Int) := ⟨hc.1, by omega⟩
    have hm : l.getD c.1.toNat s0 ∈ l := by
      rw [List.getD_eq_getElem?_getD, List.getElem?_eq_getElem (by omega)]
      simp
    have hs := hl _ hm
    rw [beq_false_of_ne h0, decide_eq_true h1]
    generalize List.getD l c.1.toNat s0 = s at *
    obtain ⟨w, hw⟩ := work_some (n := n) (s := s) (a := c.2.1) hk hn
    obtain ⟨q, hq⟩ := skip_some n s.2.1 c.2.1 x
    rw [hw, hq, f42_eq, f42_eq, f42_eq, wI (n := c.1 + 1) (by omega) (by omega)]
    simp only [cond_false, cond_true, Option.bind_some]
    have key : ∀ {b : Bool} {t e : Option (Cook × (Int × Int × Int × Int) × Bool)}, (∃ r, t = some r ∧ (r.2.2 = true ∨ (c.1 < r.1.1 ∧ r.1.1 ≤ (l.length : Int)))) → (∃ r, e = some r ∧ (r.2.2 = true ∨ (c.1 < r.1.1 ∧ r.1.1 ≤ (l.length : Int)))) →
        ∃ r, (bif b then t else e) = some r ∧ (r.2.2 = true ∨ (c.1 < r.1.1 ∧ r.1.1 ≤ (l.length : Int))) := by
      intro b t e h1 h2
      cases b
      · exact h2
      · exact h1
    have next : ∀ {d : Int × Int × Int} {o : Int × Int × Int × Int}, ∃ r : Cook × (Int × Int × Int × Int) × Bool, some ((c.1 + 1, d), o, false) = some r ∧ (r.2.2 = true ∨ (c.1 < r.1.1 ∧ r.1.1 ≤ (l.length : Int))) :=
      fun {d o} => ⟨_, rfl, .inr ⟨by show c.1 < c.1 + 1; omega, by show c.1 + 1 ≤ _; omega⟩⟩
    by_cases h9 : s.1 = 9
    · obtain ⟨hb1, hb2⟩ := hs h9
      rw [h9]
      have e : ∀ k : Int, k ≠ 9 → ((9 : Int) == k) = false := fun k hk => beq_false_of_ne (fun x => hk x.symm)
      rw [e 10 (by decide), e 11 (by decide), e 12 (by decide), e 8 (by decide), beq_self_eq_true, wI (n := c.1 + 1 + s.2.2) (by omega) (by omega)]
      simp only [cond_false, cond_true]
      refine key ⟨_, rfl, .inr ?_⟩ next
      simp only
      split <;> constructor <;> omega
    · rw [beq_false_of_ne h9]
      simp only [cond_false]
      exact key ⟨_, rfl, .inl rfl⟩ (key ⟨_, rfl, .inl rfl⟩ (key ⟨_, rfl, .inl rfl⟩ (key (key ⟨_, rfl, .inl rfl⟩ next) (key next (key next next)))))
end
theorem may_same (n : Nat) (s : Step) : f33 n s = f20 n s := by
  obtain ⟨op, A, B⟩ := s
  rw [f33_eq, f20_eq]
  simp only [f45_eq]
  by_cases h1 : op = 1
  · subst h1; rfl
  by_cases h11 : op = 11
  · subst h11; rfl
  by_cases h12 : op = 12
  · subst h12; rfl
  rw [beq_false_of_ne h1, beq_false_of_ne h11, beq_false_of_ne h12]
  simp only [cond_false]
  by_cases h2 : op = 2
  · subst h2
    simp only [beq_self_eq_true, cond_true]
    cases B == 0 <;> cases decide (A ≥ -63) <;> cases decide (A ≤ 63) <;> rfl
  by_cases h5 : op = 5
  · subst h5
    simp only [Int.reduceBEq, cond_true, cond_false]
    cases B == 0 <;> cases decide (A ≥ 0) <;> cases decide (A ≤ 63) <;> rfl
  by_cases h6 : op = 6
  · subst h6
    simp only [Int.reduceBEq, cond_true, cond_false]
    rw [show decide (A < 256) = decide (A ≤ 255) from decide_eq_decide.2 (by omega)]
    cases B == 0 <;> cases decide (A ≥ 0) <;> cases decide (A ≤ 255) <;> rfl
  by_cases h7 : op = 7
  · subst h7
    simp only [Int.reduceBEq, cond_true, cond_false]
    cases B == 0 <;> cases decide (A ≥ 0) <;> cases decide (A ≤ 4611686018427387904) <;> rfl
  rw [beq_false_of_ne h2, beq_false_of_ne h5, beq_false_of_ne h6, beq_false_of_ne h7]
  rfl
/-- What is known of a step that may be. -/
theorem may_out {n : Nat} {s : Step} (h : f33 n s = some true) : (1 ≤ s.1 ∧ s.1 ≤ 12) ∧ (s.1 = 2 → -63 ≤ s.2.1 ∧ s.2.1 ≤ 63) ∧ (s.1 = 5 → 0 ≤ s.2.1 ∧ s.2.1 ≤ 63) := by
  obtain ⟨op, A, B⟩ := s
  rw [f33_eq] at h
  simp only [f45_eq] at h
  refine ⟨?_, ?_, ?_⟩
  · refine Classical.byContradiction fun hn => ?_
    have e : ∀ k : Int, 1 ≤ k → k ≤ 12 → (op == k) = false := fun k h1 h2 => beq_false_of_ne (fun x => hn (x ▸ ⟨h1, h2⟩))
    rw [e 1 (by decide) (by decide), e 2 (by decide) (by decide), e 3 (by decide) (by decide), e 4 (by decide) (by decide), e 5 (by decide) (by decide), e 6 (by decide) (by decide), e 7 (by decide) (by decide),
      e 8 (by decide) (by decide), e 9 (by decide) (by decide), e 10 (by decide) (by decide), e 11 (by decide) (by decide), e 12 (by decide) (by decide)] at h
    cases h
  · intro h2
    have h2 : op = 2 := h2
    subst h2
    simp only [Int.reduceBEq, cond_true, cond_false] at h
    by_cases a1 : A ≥ -63
    · by_cases a2 : A ≤ 63
      · exact ⟨a1, a2⟩
      · rw [decide_eq_true a1, decide_eq_false a2] at h
        cases hb : B == 0 <;> rw [hb] at h <;> cases h
    · rw [decide_eq_false a1] at h
      cases hb : B == 0 <;> rw [hb] at h <;> cases h
  · intro h5
    have h5 : op = 5 := h5
    subst h5
    simp only [Int.reduceBEq, cond_true, cond_false] at h
    by_cases a1 : A ≥ 0
    · by_cases a2 : A ≤ 63
      · exact ⟨a1, a2⟩
      · rw [decide_eq_true a1, decide_eq_false a2] at h
        cases hb : B == 0 <;> rw [hb] at h <;> cases h
    · rw [decide_eq_false a1] at h
      cases hb : B == 0 <;> rw [hb] at h <;> cases h
theorem find_same (n : Nat) {l : List Step} (hl : l.length ≤ 256) : ∀ (k i m : Nat), i + k = l.length → k < m → ∃ r, f31a_4 n m l () l.length i = some r ∧ f7_8 n m l l.length i = some (bif decide (r ≥ 0) then (r, 80) else (0, 0)) := by
  intro k
  induction k with
  | zero =>
    intro i m hi hm
    obtain ⟨m, rfl⟩ : ∃ q, m = q + 1 := ⟨m - 1, by omega⟩
    rw [f31a_4_eq, f7_8_eq, decide_eq_false (show ¬ (i : Int) < (l.length : Int) by omega)]
    exact ⟨_, rfl, rfl⟩
  | succ k ih =>
    intro i m hi hm
    obtain ⟨m, rfl⟩ : ∃ q, m = q + 1 := ⟨m - 1, by omega⟩
    obtain ⟨r, h1, h2⟩ := ih (i + 1) m (by omega) (by omega)
    rw [show ((i + 1 : Nat) : Int) = (i : Int) + 1 by omega] at h1 h2
    obtain ⟨b, hb⟩ := may_some n (l.getD i s0)
    rw [f31a_4_eq, f7_8_eq, decide_eq_true (show (i : Int) < (l.length : Int) by omega), decide_eq_true (show (0 : Int) ≤ (i : Int) ∧ (i : Int) < (l.length : Int) by omega), wI (n := (i : Int) + 1) (by omega) (by omega)]
    simp only [cond_true, Int.toNat_natCast, f32_eq, ← may_same, hb, Option.bind_some]
    cases b with
    | true => exact ⟨r, h1, h2⟩
    | false =>
      refine ⟨_, rfl, ?_⟩
      rw [decide_eq_true (show (i : Int) ≥ 0 by omega)]
      rfl
theorem check_same {n : Nat} (hn : 257 ≤ n) (l : List Step) : f16 n l = f7 n l := by
  rw [f16_eq, f7_eq]
  by_cases h : (l.length : Int) > 256
  · rw [decide_eq_true h]
    rfl
  · rw [decide_eq_false h]
    obtain ⟨r, h1, h2⟩ := find_same n (l := l) (by omega) l.length 0 n (by omega) (by omega)
    rw [show ((0 : Nat) : Int) = 0 from rfl] at h1 h2
    rw [f31a_eq, h1, cond_false, cond_false, h2, Option.bind_some]
    cases decide (r ≥ 0) <;> rfl
theorem given_all (n : Nat) {l : List Step} (hl : l.length * 24 ≤ 140737488351232) {m : Nat} (hm : l.length + 1 ≤ m) : f8_6 n m l l.length 0 [] = some l := by
  obtain ⟨s, m1, h1, h2, h3⟩ := loopN (G := fun m i (a : List Step) => f8_6 n m l l.length i a) (I := fun i a => a = l.take i) (len := l.length) (c := 1)
    (by
      intro m i a hi hI hm
      obtain ⟨m, rfl⟩ : ∃ q, m = q + 1 := ⟨m - 1, by omega⟩
      refine ⟨_, m, rfl, by omega, ?_⟩
      have hlen : a.length = i := by rw [hI]; simp; omega
      show f8_6 n (m + 1) l l.length i a = _
      have e : l.take (i + 1) = a ++ [l.getD i s0] := by
        rw [hI, List.take_add_one, List.getD_eq_getElem?_getD, List.getElem?_eq_getElem hi]
        simp
      rw [f8_6_eq, decide_eq_true (show (i : Int) < (l.length : Int) by omega), decide_eq_true (show (0 : Int) ≤ (i : Int) ∧ (i : Int) < (l.length : Int) by omega), wI (n := (i : Int) + 1) (by omega) (by omega), e,
        decide_eq_true (show (a.length + [l.getD (i : Int).toNat s0].length) * 24 ≤ Go.Rf.maxBytes by show (a.length + 1) * 24 ≤ 140737488355328; omega)]
      rfl)
    l.length 0 m [] (by omega) (by rw [List.take_zero]) (by omega)
  obtain ⟨m1, rfl⟩ : ∃ q, m1 = q + 1 := ⟨m1 - 1, by omega⟩
  rw [show ((0 : Nat) : Int) = 0 from rfl] at h3
  refine h3.trans ?_
  rw [List.take_length] at h1
  show f8_6 n (m1 + 1) l l.length (l.length : Nat) s = _
  rw [f8_6_eq, decide_eq_false (show ¬ (l.length : Int) < (l.length : Int) by omega), cond_false, h1]
theorem same_all {n : Nat} {l : List Step} (hl : l.length ≤ 9223372036854775807) (hn : l.length + 1 ≤ n) : f12 n l l = some true := by
  rw [f12_eq, bne_self_eq_false, cond_false]
  obtain ⟨s, m1, _, h2, h3⟩ := loopN (G := fun m i (_ : Unit) => f12_8 n m l l l.length i) (I := fun _ _ => True) (len := l.length) (c := 1)
    (by
      intro m i _ hi _ hm
      obtain ⟨m, rfl⟩ : ∃ q, m = q + 1 := ⟨m - 1, by omega⟩
      refine ⟨(), m, trivial, by omega, ?_⟩
      show f12_8 n (m + 1) l l l.length i = _
      rw [f12_8_eq, decide_eq_true (show (i : Int) < (l.length : Int) by omega), decide_eq_true (show (0 : Int) ≤ (i : Int) ∧ (i : Int) < (l.length : Int) by omega), wI (n := (i : Int) + 1) (by omega) (by omega)]
      simp only [cond_true, beq_self_eq_true, Bool.and_self, Bool.not_true, cond_false]
      rfl)
    l.length 0 n () (by omega) trivial (by omega)
  obtain ⟨m1, rfl⟩ : ∃ q, m1 = q + 1 := ⟨m1 - 1, by omega⟩
  rw [show ((0 : Nat) : Int) = 0 from rfl] at h3
  refine h3.trans ?_
  show f12_8 n (m1 + 1) l l l.length (l.length : Nat) = _
  rw [f12_8_eq, decide_eq_false (show ¬ (l.length : Int) < (l.length : Int) by omega), cond_false]
abbrev zc : Cook := (0, 0, 0, 0)
/-- Where a recipe or a state may not be. -/
theorem awake_recipe (n : Nat) : f5 (n + 12) = some true := by kernel_rfl
end Go.Proofs.YtfmbgnbdolidjaaDoor
