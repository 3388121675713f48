/- What a recipe's steps come to: what may be, and one step of it. -/
import Derived.Test.YtbmdklndjlmogaaL0
import Derived.Test.YtbmdklndjlmogaaGa
namespace Go.Proofs.Ytbmdklndjlmogaa
open Go.Rf
abbrev Step := Int × Int × Int
abbrev Around := (Int × ByteArray) × Int × Bool
abbrev Cook := Int × Int × Int × Int
abbrev s0 : Step := (0, 0, 0)
theorem mk_size (l : List Int) : (mkBytes l).size = l.length := by simp [mkBytes, ByteArray.size]
theorem told_some (n : Nat) {k : Int × ByteArray} (hk : k.2.size ≤ reachBytes) : ∃ s : ByteArray, f71 n k = some s ∧ s.size = 3 + k.2.size := by
  have hr : reachBytes = 140737488351232 := by decide
  rw [f71_eq, mk_size, decide_eq_false (by simp only [List.length_cons, List.length_nil]; show ¬ ((_ : Int) > 9223372036854775807); omega)]
  exact ⟨_, rfl, by rw [ByteArray.size_append, mk_size]; rfl⟩
theorem hash_loop (n : Nat) {s : ByteArray} (hs : s.size ≤ 4611686018427387904) : ∀ (k i m : Nat) (h : Int), i + k = s.size → k < m → ∃ r, f65_8 n m h s s.size i = some r := by
  intro k
  induction k with
  | zero =>
    intro i m h hi hm
    obtain ⟨m, rfl⟩ : ∃ q, m = q + 1 := ⟨m - 1, by omega⟩
    rw [f65_8_eq, decide_eq_false (show ¬ (i : Int) < (s.size : Int) by omega)]
    exact ⟨_, rfl⟩
  | succ k ih =>
    intro i m h hi hm
    obtain ⟨m, rfl⟩ : ∃ q, m = q + 1 := ⟨m - 1, by omega⟩
    rw [f65_8_eq, decide_eq_true (show (i : Int) < (s.size : Int) by omega), decide_eq_true (show (0 : Int) ≤ (i : Int) ∧ (i : Int) < (s.size : Int) by omega), wI (n := (i : Int) + 1) (by omega) (by omega)]
    have := ih (i + 1) m (IntKind.u64.wrap (IntKind.u64.wrap ↑(BitVec.ofInt 64 h ^^^ BitVec.ofInt 64 (IntKind.u64.wrap (byteAt s i))).toNat * 1099511628211)) (by omega) (by omega)
    rw [show ((i + 1 : Nat) : Int) = (i : Int) + 1 by omega] at this
    exact this
theorem hash_some {n : Nat} {k : Int × ByteArray} (hk : k.2.size ≤ reachBytes) (hn : k.2.size + 4 ≤ n) : ∃ r, f65 n k = some r := by
  have hr : reachBytes = 140737488351232 := by decide
  obtain ⟨s, h1, h2⟩ := told_some n hk
  rw [f65_eq, h1]
  have := hash_loop n (s := s) (by omega) s.size 0 n 14695981039346656037 (by omega) (by omega)
  exact this
theorem shift_some (n : Nat) (a b : Int) : ∃ r, f64 n a b = some r := by
  rw [f64_eq, decide_eq_false (show ¬ IntKind.u64.wrap (IntKind.i64.wrap (0 - b)) < 0 by have := (wU_u64 (IntKind.i64.wrap (0 - b))).1; omega), decide_eq_false (show ¬ IntKind.u64.wrap b < 0 by have := (wU_u64 b).1; omega)]
  by_cases h : b < 0
  · rw [decide_eq_true h]; exact ⟨_, rfl⟩
  · rw [decide_eq_false h]; exact ⟨_, rfl⟩
theorem turn_some (n : Nat) (a b : Int) : ∃ r, f66 n a b = some r := by
  rw [f66_eq, decide_eq_false (show ¬ IntKind.u64.wrap (64 - IntKind.u64.wrap ↑(BitVec.ofInt 64 (IntKind.u64.wrap b) &&& BitVec.ofInt 64 63).toNat) < 0 by
    have := (wU_u64 (64 - IntKind.u64.wrap ↑(BitVec.ofInt 64 (IntKind.u64.wrap b) &&& BitVec.ofInt 64 63).toNat)).1; omega)]
  exact ⟨_, rfl⟩
theorem work_some {n : Nat} {s : Step} {a : Int} {x : Around} (hk : x.1.2.size ≤ reachBytes) (hn : x.1.2.size + 4 ≤ n) : ∃ r, f56 n s a x = some r := by
  obtain ⟨r1, h1⟩ := shift_some n a s.2.1
  obtain ⟨r2, h2⟩ := hash_some hk hn
  obtain ⟨r3, h3⟩ := turn_some n (IntKind.u64.wrap a) s.2.1
  rw [f56_eq, h1, h2, h3]
  simp only [Option.bind_some]
  cases s.1 == 1 <;> cases s.1 == 2 <;> cases s.1 == 3 <;> cases s.1 == 4 <;> cases s.1 == 5 <;> exact ⟨_, rfl⟩
theorem skip_some (n : Nat) (A a : Int) (x : Around) : ∃ r, f55 n A a x = some r := by
  rw [f55_eq]
  cases A == 0 <;> cases A == 1 <;> cases A == 2 <;> exact ⟨_, rfl⟩
theorem is_some (n : Nat) (t : Int) : ∃ r, f57 n t = some r := by
  rw [f57_eq]
  cases decide (t ≥ 0) <;> exact ⟨_, rfl⟩
theorem cond_some {α : Type} {b : Bool} {t e : Option α} (h1 : ∃ r, t = some r) (h2 : ∃ r, e = some r) : ∃ r, (bif b then t else e) = some r := by
  cases b
  · exact h2
  · exact h1
/-- What a step may be. -/
theorem may_some (n : Nat) (s : Step) : ∃ r, f43 n s = some r := by
  obtain ⟨r, h⟩ := is_some n s.2.1
  rw [f43_eq, h]
  simp only [Option.bind_some]
  repeat' first | exact ⟨_, rfl⟩ | apply cond_some
theorem may_skip {n : Nat} {s : Step} (h : f43 n s = some true) (h9 : s.1 = 9) : 0 ≤ s.2.1 ∧ s.2.1 ≤ 3 ∧ 1 ≤ s.2.2 ∧ s.2.2 ≤ 256 := by
  rw [f43_eq, h9] at h
  have e : ∀ k : Int, k ≠ 9 → ((9 : Int) == k) = false := fun k hk => beq_false_of_ne (fun x => hk x.symm)
  rw [e 1 (by decide), e 11 (by decide), e 12 (by decide), e 2 (by decide), e 5 (by decide), e 6 (by decide), e 7 (by decide)] at h
  simp only [cond_false, beq_self_eq_true, cond_true] at h
  by_cases h1 : s.2.1 ≥ 0
  · rw [decide_eq_true h1] at h
    by_cases h2 : s.2.1 ≤ 3
    · rw [decide_eq_true h2] at h
      by_cases h3 : s.2.2 ≥ 1
      · rw [decide_eq_true h3] at h
        have h4 : decide (s.2.2 ≤ 256) = true := Option.some.inj h
        exact ⟨h1, h2, h3, of_decide_eq_true h4⟩
      · rw [decide_eq_false h3] at h; cases h
    · rw [decide_eq_false h2] at h; cases h
  · rw [decide_eq_false h1] at h; cases h
theorem find_loop (n : Nat) {l : List Step} (hl : l.length ≤ 256) : ∀ (k i m : Nat), i + k = l.length → k < m → ∃ r, f41a_4 n m l () l.length i = some r ∧ (r < 0 → ∀ s ∈ l.drop i, f43 n s = some true) := by
  intro k
  induction k with
  | zero =>
    intro i m hi hm
    obtain ⟨m, rfl⟩ : ∃ q, m = q + 1 := ⟨m - 1, by omega⟩
    rw [f41a_4_eq, decide_eq_false (show ¬ (i : Int) < (l.length : Int) by omega), List.drop_of_length_le (by omega)]
    exact ⟨_, rfl, fun _ s hs => by cases hs⟩
  | succ k ih =>
    intro i m hi hm
    obtain ⟨m, rfl⟩ : ∃ q, m = q + 1 := ⟨m - 1, by omega⟩
    have hi' : i < l.length := by omega
    obtain ⟨b, hb⟩ := may_some n (l.getD i s0)
    rw [f41a_4_eq, getD_drop (d := s0) hi', decide_eq_true (show (i : Int) < (l.length : Int) by omega), decide_eq_true (show (0 : Int) ≤ (i : Int) ∧ (i : Int) < (l.length : Int) by omega), wI (n := (i : Int) + 1) (by omega) (by omega)]
    simp only [cond_true, Int.toNat_natCast, f42_eq, hb, Option.bind_some]
    cases b with
    | true =>
      obtain ⟨r, h1, h2⟩ := ih (i + 1) m (by omega) (by omega)
      rw [show ((i + 1 : Nat) : Int) = (i : Int) + 1 by omega] at h1
      refine ⟨r, h1, fun hr s hs => ?_⟩
      rcases List.mem_cons.1 hs with e | hs
      · rw [e]; exact hb
      · exact h2 hr s hs
    | false => exact ⟨_, rfl, fun hr => by omega⟩
/-- What may be. -/
theorem check_go {n : Nat} (hn : 257 ≤ n) (l : List Step) : ∃ r, f27 n l = some r ∧ (r.2 = 0 → l.length ≤ 256 ∧ ∀ s ∈ l, f43 n s = some true) := by
  rw [f27_eq]
  by_cases h : (l.length : Int) > 256
  · rw [decide_eq_true h]
    exact ⟨_, rfl, fun h => by cases h⟩
  · rw [decide_eq_false h]
    obtain ⟨r, h1, h2⟩ := find_loop n (l := l) (by omega) l.length 0 n (by omega) (by omega)
    rw [show ((0 : Nat) : Int) = 0 from rfl] at h1
    rw [f41a_eq, h1]
    simp only [cond_false, Option.bind_some]
    by_cases h3 : r ≥ 0
    · rw [decide_eq_true h3]
      exact ⟨_, rfl, fun h => by cases h⟩
    · rw [decide_eq_false h3]
      exact ⟨_, rfl, fun _ => ⟨by omega, by simpa using h2 (by omega)⟩⟩
/-- A recipe without gates and sleeps. -/
def NG (l : List Step) : Prop := ∀ s ∈ l, s.1 ≠ 6 ∧ s.1 ≠ 7
theorem one_go {n : Nat} {l : List Step} {x : Around} (hlen : l.length ≤ 256) (hl : ∀ s ∈ l, s.1 = 9 → 1 ≤ s.2.2 ∧ s.2.2 ≤ 256) (hg : NG l) (hk : x.1.2.size ≤ reachBytes) (hn : x.1.2.size + 4 ≤ n) {c : Cook} (hc : 0 ≤ c.1 ∧ c.1 ≤ (l.length : Int)) :
    ∃ r, f39 n l c x = some r ∧ (r.2.2 = true ∨ (c.1 < r.1.1 ∧ r.1.1 ≤ (l.length : Int) ∧ r.1.2.2.1 = c.2.2.1)) := by
  rw [f39_eq]
  by_cases h0 : c.1 = (l.length : Int)
  · rw [h0, beq_self_eq_true]
    exact ⟨_, rfl, .inl rfl⟩
  · have h1 : 0 ≤ c.1 ∧ c.1 < (l.length : Int) := ⟨hc.1, by omega⟩
    have hm : l.getD c.1.toNat s0 ∈ l := by
      rw [List.getD_eq_getElem?_getD, List.getElem?_eq_getElem (by omega)]
      simp
    have hs := hl _ hm
    obtain ⟨hg6, hg7⟩ := hg _ hm
    rw [beq_false_of_ne h0, decide_eq_true h1]
    generalize List.getD l c.1.toNat s0 = s at *
    obtain ⟨w, hw⟩ := work_some (n := n) (s := s) (a := c.2.1) hk hn
    obtain ⟨q, hq⟩ := skip_some n s.2.1 c.2.1 x
    rw [hw, hq, f54_eq, f54_eq, f54_eq, wI (n := c.1 + 1) (by omega) (by omega), beq_false_of_ne hg6, beq_false_of_ne hg7]
    simp only [cond_false, cond_true, Option.bind_some]
    have key : ∀ {b : Bool} {t e : Option (Cook × (Int × Int × Int × Int) × Bool)}, (∃ r, t = some r ∧ (r.2.2 = true ∨ (c.1 < r.1.1 ∧ r.1.1 ≤ (l.length : Int) ∧ r.1.2.2.1 = c.2.2.1))) → (∃ r, e = some r ∧ (r.2.2 = true ∨ (c.1 < r.1.1 ∧ r.1.1 ≤ (l.length : Int) ∧ r.1.2.2.1 = c.2.2.1))) →
        ∃ r, (bif b then t else e) = some r ∧ (r.2.2 = true ∨ (c.1 < r.1.1 ∧ r.1.1 ≤ (l.length : Int) ∧ r.1.2.2.1 = c.2.2.1)) := by
      intro b t e h1 h2
      cases b
      · exact h2
      · exact h1
    have next : ∀ {d : Int} {o : Int × Int × Int × Int}, ∃ r : Cook × (Int × Int × Int × Int) × Bool, some ((c.1 + 1, d, c.2.2), o, false) = some r ∧ (r.2.2 = true ∨ (c.1 < r.1.1 ∧ r.1.1 ≤ (l.length : Int) ∧ r.1.2.2.1 = c.2.2.1)) :=
      fun {d o} => ⟨_, rfl, .inr ⟨by show c.1 < c.1 + 1; omega, by show c.1 + 1 ≤ _; omega, rfl⟩⟩
    have next' : ∀ {o : Int × Int × Int × Int}, ∃ r : Cook × (Int × Int × Int × Int) × Bool, some ((c.1 + 1, c.2), o, false) = some r ∧ (r.2.2 = true ∨ (c.1 < r.1.1 ∧ r.1.1 ≤ (l.length : Int) ∧ r.1.2.2.1 = c.2.2.1)) :=
      fun {o} => ⟨_, rfl, .inr ⟨by show c.1 < c.1 + 1; omega, by show c.1 + 1 ≤ _; omega, rfl⟩⟩
    by_cases h9 : s.1 = 9
    · obtain ⟨hb1, hb2⟩ := hs h9
      rw [h9]
      have e : ∀ k : Int, k ≠ 9 → ((9 : Int) == k) = false := fun k hk => beq_false_of_ne (fun x => hk x.symm)
      rw [e 10 (by decide), e 11 (by decide), e 12 (by decide), e 8 (by decide), beq_self_eq_true, wI (n := c.1 + 1 + s.2.2) (by omega) (by omega)]
      simp only [cond_false, cond_true]
      refine key ⟨_, rfl, .inr ?_⟩ next'
      simp only
      refine ⟨?_, ?_, trivial⟩ <;> split <;> omega
    · rw [beq_false_of_ne h9]
      simp only [cond_false]
      exact key ⟨_, rfl, .inl rfl⟩ (key ⟨_, rfl, .inl rfl⟩ (key ⟨_, rfl, .inl rfl⟩ (key (key ⟨_, rfl, .inl rfl⟩ next') next)))
/-- One step of a recipe that may be, from a place in it. -/
theorem do_go {n : Nat} {l : List Step} {x : Around} {q : Int × Int} (hq : f27 n l = some q) (h0 : q.2 = 0) (hg : NG l) (hk : x.1.2.size ≤ reachBytes) (hn : x.1.2.size + 300 ≤ n) {c : Cook} (hc : 0 ≤ c.1 ∧ c.1 ≤ (l.length : Int)) (hw : c.2.2.1 = 0) :
    ∃ d o b, f31 n l c x = some (d, o, b, 0) ∧ (b = true ∨ (c.1 < d.1 ∧ d.1 ≤ (l.length : Int) ∧ d.2.2.1 = 0)) := by
  obtain ⟨r, h1, h2⟩ := check_go (n := n) (by omega) l
  rw [hq] at h1
  cases h1
  obtain ⟨hlen, hall⟩ := h2 h0
  obtain ⟨r, h3, h4⟩ := one_go (n := n) (x := x) hlen (fun s hs h9 => by obtain ⟨_, _, a, b⟩ := may_skip (hall s hs) h9; exact ⟨a, b⟩) hg hk (by omega) hc
  have hr : f47 n l c = some 0 := by
    rw [f47_eq, hq]
    simp only [Option.bind_some, h0, bne_self_eq_false, cond_false]
    rw [decide_eq_false (by omega), decide_eq_false (by omega), hw]
    rfl
  rw [f31_eq, hr, h3]
  simp only [Option.bind_some, bne_self_eq_false, cond_false]
  refine ⟨_, _, _, rfl, ?_⟩
  rcases h4 with h4 | ⟨a, b, e⟩
  · exact .inl h4
  · exact .inr ⟨a, b, e.trans hw⟩
end Go.Proofs.Ytbmdklndjlmogaa
