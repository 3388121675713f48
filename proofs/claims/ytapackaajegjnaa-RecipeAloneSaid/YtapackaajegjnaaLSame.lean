/- A loader that asks neither for its run nor for its token has the same value in every run. -/
import Derived.Test.YtapackaajegjnaaL0
import Derived.Test.YtapackaajegjnaaGa
namespace Go.Proofs.Ytapackaajegjnaa
open Go.Rf
abbrev Step := Int × Int × Int
abbrev Around := (Int × ByteArray) × Int × Bool
abbrev Cook := Int × Int × Int × Int
abbrev s0 : Step := (0, 0, 0)
theorem mk_size (l : List Int) : (mkBytes l).size = l.length := by simp [mkBytes, ByteArray.size]
theorem told_some (n : Nat) {k : Int × ByteArray} (hk : k.2.size ≤ reachBytes) : ∃ s : ByteArray, f57 n k = some s ∧ s.size = 3 + k.2.size := by
  have hr : reachBytes = 140737488351232 := by decide
  rw [f57_eq, mk_size, decide_eq_false (by simp only [List.length_cons, List.length_nil]; show ¬ ((_ : Int) > 9223372036854775807); omega)]
  exact ⟨_, rfl, by rw [ByteArray.size_append, mk_size]; rfl⟩
theorem hash_loop (n : Nat) {s : ByteArray} (hs : s.size ≤ 4611686018427387904) : ∀ (k i m : Nat) (h : Int), i + k = s.size → k < m → ∃ r, f44_8 n m h s s.size i = some r := by
  intro k
  induction k with
  | zero =>
    intro i m h hi hm
    obtain ⟨m, rfl⟩ : ∃ q, m = q + 1 := ⟨m - 1, by omega⟩
    rw [f44_8_eq, decide_eq_false (show ¬ (i : Int) < (s.size : Int) by omega)]
    exact ⟨_, rfl⟩
  | succ k ih =>
    intro i m h hi hm
    obtain ⟨m, rfl⟩ : ∃ q, m = q + 1 := ⟨m - 1, by omega⟩
    rw [f44_8_eq, decide_eq_true (show (i : Int) < (s.size : Int) by omega), decide_eq_true (show (0 : Int) ≤ (i : Int) ∧ (i : Int) < (s.size : Int) by omega), wI (n := (i : Int) + 1) (by omega) (by omega)]
    have := ih (i + 1) m (IntKind.u64.wrap (IntKind.u64.wrap ↑(BitVec.ofInt 64 h ^^^ BitVec.ofInt 64 (IntKind.u64.wrap (byteAt s i))).toNat * 1099511628211)) (by omega) (by omega)
    rw [show ((i + 1 : Nat) : Int) = (i : Int) + 1 by omega] at this
    exact this
theorem hash_some {n : Nat} {k : Int × ByteArray} (hk : k.2.size ≤ reachBytes) (hn : k.2.size + 4 ≤ n) : ∃ r, f44 n k = some r := by
  have hr : reachBytes = 140737488351232 := by decide
  obtain ⟨s, h1, h2⟩ := told_some n hk
  rw [f44_eq, h1]
  have := hash_loop n (s := s) (by omega) s.size 0 n 14695981039346656037 (by omega) (by omega)
  exact this
theorem shift_some (n : Nat) (a b : Int) : ∃ r, f43 n a b = some r := by
  rw [f43_eq, decide_eq_false (show ¬ IntKind.u64.wrap (IntKind.i64.wrap (0 - b)) < 0 by have := (wU_u64 (IntKind.i64.wrap (0 - b))).1; omega), decide_eq_false (show ¬ IntKind.u64.wrap b < 0 by have := (wU_u64 b).1; omega)]
  by_cases h : b < 0
  · rw [decide_eq_true h]; exact ⟨_, rfl⟩
  · rw [decide_eq_false h]; exact ⟨_, rfl⟩
theorem turn_some (n : Nat) (a b : Int) : ∃ r, f45 n a b = some r := by
  rw [f45_eq, decide_eq_false (show ¬ IntKind.u64.wrap (64 - IntKind.u64.wrap ↑(BitVec.ofInt 64 (IntKind.u64.wrap b) &&& BitVec.ofInt 64 63).toNat) < 0 by
    have := (wU_u64 (64 - IntKind.u64.wrap ↑(BitVec.ofInt 64 (IntKind.u64.wrap b) &&& BitVec.ofInt 64 63).toNat)).1; omega)]
  exact ⟨_, rfl⟩
theorem work_some {n : Nat} {s : Step} {a : Int} {x : Around} (hk : x.1.2.size ≤ reachBytes) (hn : x.1.2.size + 4 ≤ n) : ∃ r, f37 n s a x = some r := by
  obtain ⟨r1, h1⟩ := shift_some n a s.2.1
  obtain ⟨r2, h2⟩ := hash_some hk hn
  obtain ⟨r3, h3⟩ := turn_some n (IntKind.u64.wrap a) s.2.1
  rw [f37_eq, h1, h2, h3]
  simp only [Option.bind_some]
  cases s.1 == 1 <;> cases s.1 == 2 <;> cases s.1 == 3 <;> cases s.1 == 4 <;> cases s.1 == 5 <;> exact ⟨_, rfl⟩
theorem work_same {n : Nat} {s : Step} {a : Int} {x y : Around} (hk : x.1 = y.1) (h4 : s.1 ≠ 4) : f37 n s a x = f37 n s a y := by
  rw [f37_eq, f37_eq, hk, beq_false_of_ne h4]
  simp only [cond_false]
theorem skip_same {n : Nat} {A a : Int} {x y : Around} (hA : A = 0 ∨ A = 1 ∨ A = 2) : f36 n A a x = f36 n A a y := by
  rw [f36_eq, f36_eq]
  rcases hA with rfl | rfl | rfl <;> rfl
theorem skip_some (n : Nat) (A a : Int) (x : Around) : ∃ r, f36 n A a x = some r := by
  rw [f36_eq]
  cases A == 0 <;> cases A == 1 <;> cases A == 2 <;> exact ⟨_, rfl⟩
theorem is_some (n : Nat) (t : Int) : ∃ r, f38 n t = some r := by
  rw [f38_eq]
  cases decide (t ≥ 0) <;> exact ⟨_, rfl⟩
theorem after_some (n : Nat) (t d : Int) : ∃ r, f23 n t d = some r := by
  obtain ⟨r, h⟩ := is_some n t
  rw [f23_eq, h]
  simp only [Option.bind_some]
  cases !r <;> cases decide (d < 0) <;> cases decide (d > IntKind.i64.wrap (4611686018427387904 - t)) <;> exact ⟨_, rfl⟩
/-- A step that hangs on the run or on the token. -/
def bad (s : Step) : Prop := s.1 = 4 ∨ s.1 = 11 ∨ s.1 = 12 ∨ s.1 = 8 ∨ (s.1 = 9 ∧ s.2.1 = 3)
theorem cond_some {α : Type} {b : Bool} {t e : Option α} (h1 : ∃ r, t = some r) (h2 : ∃ r, e = some r) : ∃ r, (bif b then t else e) = some r := by
  cases b
  · exact h2
  · exact h1
/-- What a step may be. -/
theorem may_some (n : Nat) (s : Step) : ∃ r, f26 n s = some r := by
  obtain ⟨r, h⟩ := is_some n s.2.1
  rw [f26_eq, h]
  simp only [Option.bind_some]
  repeat' first | exact ⟨_, rfl⟩ | apply cond_some
theorem may_skip {n : Nat} {s : Step} (h : f26 n s = some true) (h9 : s.1 = 9) : 0 ≤ s.2.1 ∧ s.2.1 ≤ 3 ∧ 1 ≤ s.2.2 ∧ s.2.2 ≤ 256 := by
  rw [f26_eq, h9] at h
  have e : ∀ k : Int, k ≠ 9 → ((9 : Int) == k) = false := fun k hk => beq_false_of_ne (fun x => hk x.symm)
  rw [e 1 (by decide), e 11 (by decide), e 12 (by decide), e 2 (by decide), e 5 (by decide), e 6 (by decide), e 7 (by decide)] at h
  simp only [cond_false, beq_self_eq_true, cond_true] at h
  by_cases h1 : s.2.1 ≥ 0
  · rw [decide_eq_true h1] at h
    by_cases h2 : s.2.1 ≤ 3
    · rw [decide_eq_true h2] at h
      by_cases h3 : s.2.2 ≥ 1
      · rw [decide_eq_true h3] at h
        have h4 : decide (s.2.2 ≤ 256) = true := Option.some.inj h
        exact ⟨h1, h2, h3, of_decide_eq_true h4⟩
      · rw [decide_eq_false h3] at h; cases h
    · rw [decide_eq_false h2] at h; cases h
  · rw [decide_eq_false h1] at h; cases h
theorem find_loop (n : Nat) {l : List Step} (hl : l.length ≤ 256) : ∀ (k i m : Nat), i + k = l.length → k < m → ∃ r, f24a_4 n m l () l.length i = some r ∧ (r < 0 → ∀ s ∈ l.drop i, f26 n s = some true) := by
  intro k
  induction k with
  | zero =>
    intro i m hi hm
    obtain ⟨m, rfl⟩ : ∃ q, m = q + 1 := ⟨m - 1, by omega⟩
    rw [f24a_4_eq, decide_eq_false (show ¬ (i : Int) < (l.length : Int) by omega), List.drop_of_length_le (by omega)]
    exact ⟨_, rfl, fun _ s hs => by cases hs⟩
  | succ k ih =>
    intro i m hi hm
    obtain ⟨m, rfl⟩ : ∃ q, m = q + 1 := ⟨m - 1, by omega⟩
    have hi' : i < l.length := by omega
    obtain ⟨b, hb⟩ := may_some n (l.getD i s0)
    rw [f24a_4_eq, getD_drop (d := s0) hi', decide_eq_true (show (i : Int) < (l.length : Int) by omega), decide_eq_true (show (0 : Int) ≤ (i : Int) ∧ (i : Int) < (l.length : Int) by omega), wI (n := (i : Int) + 1) (by omega) (by omega)]
    simp only [cond_true, Int.toNat_natCast, f25_eq, hb, Option.bind_some]
    cases b with
    | true =>
      obtain ⟨r, h1, h2⟩ := ih (i + 1) m (by omega) (by omega)
      rw [show ((i + 1 : Nat) : Int) = (i : Int) + 1 by omega] at h1
      refine ⟨r, h1, fun hr s hs => ?_⟩
      rcases List.mem_cons.1 hs with e | hs
      · rw [e]; exact hb
      · exact h2 hr s hs
    | false => exact ⟨_, rfl, fun hr => by omega⟩
/-- What may be. -/
theorem check_go {n : Nat} (hn : 257 ≤ n) (l : List Step) : ∃ r, f8 n l = some r ∧ (r.2 = 0 → l.length ≤ 256 ∧ ∀ s ∈ l, f26 n s = some true) := by
  rw [f8_eq]
  by_cases h : (l.length : Int) > 256
  · rw [decide_eq_true h]
    exact ⟨_, rfl, fun h => by cases h⟩
  · rw [decide_eq_false h]
    obtain ⟨r, h1, h2⟩ := find_loop n (l := l) (by omega) l.length 0 n (by omega) (by omega)
    rw [show ((0 : Nat) : Int) = 0 from rfl] at h1
    rw [f24a_eq, h1]
    simp only [cond_false, Option.bind_some]
    by_cases h3 : r ≥ 0
    · rw [decide_eq_true h3]
      exact ⟨_, rfl, fun h => by cases h⟩
    · rw [decide_eq_false h3]
      exact ⟨_, rfl, fun _ => ⟨by omega, by simpa using h2 (by omega)⟩⟩
section
variable {n : Nat} {l : List Step} {x y : Around}
theorem one_same (hl : ∀ s ∈ l, ¬ bad s ∧ (s.1 = 9 → s.2.1 = 0 ∨ s.2.1 = 1 ∨ s.2.1 = 2)) (hk : x.1 = y.1) (c : Cook) : f22 n l c x = f22 n l c y := by
  rw [f22_eq n l c x, f22_eq n l c y]
  by_cases h1 : 0 ≤ c.1 ∧ c.1 < (l.length : Int)
  · have hm : l.getD c.1.toNat s0 ∈ l := by
      rw [List.getD_eq_getElem?_getD, List.getElem?_eq_getElem (by omega)]
      simp
    obtain ⟨hb, hs⟩ := hl _ hm
    rw [decide_eq_true h1]
    generalize List.getD l c.1.toNat s0 = s at *
    have e11 : (s.1 == 11) = false := beq_false_of_ne (fun h => hb (.inr (.inl h)))
    have e12 : (s.1 == 12) = false := beq_false_of_ne (fun h => hb (.inr (.inr (.inl h))))
    have e8 : (s.1 == 8) = false := beq_false_of_ne (fun h => hb (.inr (.inr (.inr (.inl h)))))
    rw [e11, e12, e8, work_same hk (fun h => hb (.inl h))]
    simp only [cond_false]
    by_cases h9 : s.1 = 9
    · rw [skip_same (x := x) (y := y) (hs h9)]
    · rw [beq_false_of_ne h9]
      simp only [cond_false]
  · rw [decide_eq_false h1]
    simp only [cond_false]
theorem alone_same (h : ∀ c, f22 n l c x = f22 n l c y) : ∀ (m : Nat) (slept : Int) (b4 c : Cook), f7_12 n m l slept x b4 c = f7_12 n m l slept y b4 c
  | 0, _, _, _ => rfl
  | m + 1, slept, b4, c => by
    rw [f7_12_eq, f7_12_eq, h c]
    cases f22 n l c y with
    | none => rfl
    | some r1 =>
      simp only [Option.bind_some]
      cases r1.2.2 with
      | true => rfl
      | false =>
        simp only [cond_false]
        cases r1.1.2.2.1 == 2 with
        | true =>
          simp only [cond_true]
          cases f23 n slept r1.1.2.2.2 with
          | none => rfl
          | some r2 => exact alone_same h m r2.1 b4 _
        | false => exact alone_same h m slept b4 _
theorem one_some (hlen : l.length ≤ 256) (hl : ∀ s ∈ l, s.1 = 9 → 1 ≤ s.2.2 ∧ s.2.2 ≤ 256) (hk : x.1.2.size ≤ reachBytes) (hn : x.1.2.size + 4 ≤ n) {c : Cook} (hc : 0 ≤ c.1 ∧ c.1 ≤ (l.length : Int)) :
    ∃ r, f22 n l c x = some r ∧ (r.2.2 = true ∨ (c.1 < r.1.1 ∧ r.1.1 ≤ (l.length : Int))) := by
  rw [f22_eq]
  by_cases h0 : c.1 = (l.length : Int)
  · rw [h0, beq_self_eq_true]
    exact ⟨_, rfl, .inl rfl⟩
  · have h1 : 0 ≤ c.1 ∧ c.1 < (l.length : Int) := ⟨hc.1, by omega⟩
    have hm : l.getD c.1.toNat s0 ∈ l := by
      rw [List.getD_eq_getElem?_getD, List.getElem?_eq_getElem (by omega)]
      simp
    have hs := hl _ hm
    rw [beq_false_of_ne h0, decide_eq_true h1]
    generalize List.getD l c.1.toNat s0 = s at *
    obtain ⟨w, hw⟩ := work_some (n := n) (s := s) (a := c.2.1) hk hn
    obtain ⟨q, hq⟩ := skip_some n s.2.1 c.2.1 x
    rw [hw, hq, f35_eq, f35_eq, f35_eq, wI (n := c.1 + 1) (by omega) (by omega)]
    simp only [cond_false, cond_true, Option.bind_some]
    have key : ∀ {b : Bool} {t e : Option (Cook × (Int × Int × Int × Int) × Bool)}, (∃ r, t = some r ∧ (r.2.2 = true ∨ (c.1 < r.1.1 ∧ r.1.1 ≤ (l.length : Int)))) → (∃ r, e = some r ∧ (r.2.2 = true ∨ (c.1 < r.1.1 ∧ r.1.1 ≤ (l.length : Int)))) →
        ∃ r, (bif b then t else e) = some r ∧ (r.2.2 = true ∨ (c.1 < r.1.1 ∧ r.1.1 ≤ (l.length : Int))) := by
      intro b t e h1 h2
      cases b
      · exact h2
      · exact h1
    have next : ∀ {d : Int × Int × Int} {o : Int × Int × Int × Int}, ∃ r : Cook × (Int × Int × Int × Int) × Bool, some ((c.1 + 1, d), o, false) = some r ∧ (r.2.2 = true ∨ (c.1 < r.1.1 ∧ r.1.1 ≤ (l.length : Int))) :=
      fun {d o} => ⟨_, rfl, .inr ⟨by show c.1 < c.1 + 1; omega, by show c.1 + 1 ≤ _; omega⟩⟩
    by_cases h9 : s.1 = 9
    · obtain ⟨hb1, hb2⟩ := hs h9
      rw [h9]
      have e : ∀ k : Int, k ≠ 9 → ((9 : Int) == k) = false := fun k hk => beq_false_of_ne (fun x => hk x.symm)
      rw [e 10 (by decide), e 11 (by decide), e 12 (by decide), e 8 (by decide), beq_self_eq_true, wI (n := c.1 + 1 + s.2.2) (by omega) (by omega)]
      simp only [cond_false, cond_true]
      refine key ⟨_, rfl, .inr ?_⟩ next
      simp only
      split <;> constructor <;> omega
    · rw [beq_false_of_ne h9]
      simp only [cond_false]
      exact key ⟨_, rfl, .inl rfl⟩ (key ⟨_, rfl, .inl rfl⟩ (key ⟨_, rfl, .inl rfl⟩ (key (key ⟨_, rfl, .inl rfl⟩ next) (key next (key next next)))))
theorem alone_some (hlen : l.length ≤ 256) (hl : ∀ s ∈ l, s.1 = 9 → 1 ≤ s.2.2 ∧ s.2.2 ≤ 256) (hk : x.1.2.size ≤ reachBytes) (hn : x.1.2.size + 4 ≤ n) : ∀ (k m : Nat) (slept : Int) (b4 c : Cook), 0 ≤ c.1 → c.1 ≤ (l.length : Int) → (l.length : Int) - c.1 ≤ k → k < m →
    ∃ r, f7_12 n m l slept x b4 c = some r := by
  intro k
  induction k with
  | zero =>
    intro m slept b4 c h0 h1 h2 hm
    obtain ⟨m, rfl⟩ : ∃ q, m = q + 1 := ⟨m - 1, by omega⟩
    obtain ⟨r, hr, hc⟩ := one_some hlen hl hk hn (c := c) ⟨h0, h1⟩
    rw [f7_12_eq, hr]
    rcases hc with hc | hc
    · simp only [Option.bind_some, hc, cond_true]; exact ⟨_, rfl⟩
    · omega
  | succ k ih =>
    intro m slept b4 c h0 h1 h2 hm
    obtain ⟨m, rfl⟩ : ∃ q, m = q + 1 := ⟨m - 1, by omega⟩
    obtain ⟨r, hr, hc⟩ := one_some hlen hl hk hn (c := c) ⟨h0, h1⟩
    obtain ⟨q, hq⟩ := after_some n slept r.1.2.2.2
    rw [f7_12_eq, hr]
    simp only [Option.bind_some, hq]
    cases he : r.2.2 with
    | true => exact ⟨_, rfl⟩
    | false =>
      rcases hc with hc | hc
      · rw [hc] at he; cases he
      · simp only [cond_false]
        exact cond_some (ih m q.1 b4 _ (by show 0 ≤ r.1.1; omega) hc.2 (by show (l.length : Int) - r.1.1 ≤ k; omega) (by omega)) (ih m slept b4 _ (by show 0 ≤ r.1.1; omega) hc.2 (by show (l.length : Int) - r.1.1 ≤ k; omega) (by omega))
theorem alone_go (hl : ∀ s ∈ l, ¬ bad s) (hx : x.1 = y.1) (hk : x.1.2.size ≤ reachBytes) (hn : x.1.2.size + 300 ≤ n) : f7 n l x = f7 n l y ∧ ∃ r, f7 n l x = some r := by
  obtain ⟨r, hr, hm⟩ := check_go (n := n) (by omega) l
  rw [f7_eq, f7_eq, hr]
  simp only [Option.bind_some]
  by_cases h0 : r.2 = 0
  · obtain ⟨hlen, hmay⟩ := hm h0
    rw [h0, bne_self_eq_false]
    simp only [cond_false]
    refine ⟨alone_same (one_same (fun s hs => ⟨hl s hs, fun h9 => ?_⟩) hx) n 0 _ _, ?_⟩
    · obtain ⟨a1, a2, _, _⟩ := may_skip (hmay s hs) h9
      have : s.2.1 ≠ 3 := fun h3 => hl s hs (.inr (.inr (.inr (.inr ⟨h9, h3⟩))))
      omega
    · exact alone_some hlen (fun s hs h9 => (may_skip (hmay s hs) h9).2.2) hk (by omega) l.length n 0 _ _ (Int.le_refl 0) (by show (0 : Int) ≤ _; omega) (by show (l.length : Int) - 0 ≤ _; omega) (by omega)
  · have e : (r.2 != 0) = true := by simp [h0]
    rw [e]
    exact ⟨rfl, _, rfl⟩
end
theorem law_loop (n : Nat) {l : List Step} (hlen : l.length ≤ maxLen) (x y : Around) (T : (∀ s ∈ l, ¬ bad s) → f7 n l x = f7 n l (x.1, y.2) ∧ ∃ r, f7 n l x = some r) : ∀ (k i m : Nat), i + k = l.length → k < m → (∀ s ∈ l.take i, ¬ bad s) → f3_8 n m l l l.length i x y = some true := by
  rw [maxLen_eq] at hlen
  intro k
  induction k with
  | zero =>
    intro i m hi hm hb
    obtain ⟨m, rfl⟩ : ∃ q, m = q + 1 := ⟨m - 1, by omega⟩
    rw [List.take_of_length_le (by omega)] at hb
    obtain ⟨h1, r, h2⟩ := T hb
    rw [f3_8_eq, decide_eq_false (show ¬ (i : Int) < (l.length : Int) by omega), ← h1, h2]
    simp
  | succ k ih =>
    intro i m hi hm hb
    obtain ⟨m, rfl⟩ : ∃ q, m = q + 1 := ⟨m - 1, by omega⟩
    have hi' : i < l.length := by omega
    have ihm := ih (i + 1) m (by omega) (by omega)
    rw [show ((i + 1 : Nat) : Int) = (i : Int) + 1 by omega] at ihm
    rw [f3_8_eq, decide_eq_true (show (i : Int) < (l.length : Int) by omega), decide_eq_true (show (0 : Int) ≤ (i : Int) ∧ (i : Int) < (l.length : Int) by omega), wI (n := (i : Int) + 1) (by omega) (by omega)]
    simp only [cond_true, Int.toNat_natCast]
    have htake : ¬ bad (l.getD i s0) → ∀ s ∈ l.take (i + 1), ¬ bad s := by
      intro hn s hs
      rw [List.take_add_one, List.getElem?_eq_getElem hi'] at hs
      rcases List.mem_append.1 hs with hs | hs
      · exact hb s hs
      · have e : s = l.getD i s0 := by
          rw [List.getD_eq_getElem?_getD, List.getElem?_eq_getElem hi']
          simpa using hs
        rw [e]; exact hn
    generalize List.getD l i s0 = s at *
    by_cases h4 : s.1 = 4
    · rw [h4]; rfl
    · by_cases h11 : s.1 = 11
      · rw [h11]; rfl
      · by_cases h12 : s.1 = 12
        · rw [h12]; rfl
        · by_cases h8 : s.1 = 8
          · rw [h8]; rfl
          · rw [beq_false_of_ne h4, beq_false_of_ne h11, beq_false_of_ne h12, beq_false_of_ne h8]
            simp only [cond_false]
            by_cases h9 : s.1 = 9
            · rw [h9, beq_self_eq_true]
              by_cases h3 : s.2.1 = 3
              · rw [h3]; rfl
              · rw [beq_false_of_ne h3]
                exact ihm (htake (by rintro (h | h | h | h | ⟨_, h⟩) <;> first | exact h4 h | exact h11 h | exact h12 h | exact h8 h | exact h3 h))
            · rw [beq_false_of_ne h9]
              exact ihm (htake (by rintro (h | h | h | h | ⟨h, _⟩) <;> first | exact h4 h | exact h11 h | exact h12 h | exact h8 h | exact h9 h))
theorem awake_recipe (n : Nat) : f6 (n + 12) = some true := by kernel_rfl
theorem recipe_same {n : Nat} {l : List Step} {x : Around} (y : Around) (hlen : l.length ≤ maxLen) (hk : x.1.2.size ≤ reachBytes) (hn : x.1.2.size + 300 ≤ n) (hn2 : l.length < n) : f3 n l x y = some true := by
  have haw : f6 n = some true := by
    obtain ⟨q, rfl⟩ : ∃ q, n = q + 12 := ⟨n - 12, by omega⟩
    exact awake_recipe q
  rw [f3_eq, haw]
  exact law_loop n hlen x y (fun hb => alone_go hb rfl hk hn) l.length 0 n (by omega) hn2 (fun s hs => by simp at hs)
end Go.Proofs.Ytapackaajegjnaa
