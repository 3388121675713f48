/- One step of a recipe, 2: which recipes may be, what a step does, the law. -/
import Derived.Test.YtapackaajegjnaaLDoes
namespace Go.Proofs.Ytapackaajegjnaa
open Go.Rf
theorem may_same (n : Nat) (s : Step) : f26 n s = f27 n s := by
  obtain ⟨op, A, B⟩ := s
  rw [f26_eq, f27_eq]
  simp only [f38_eq]
  by_cases h1 : op = 1
  · subst h1; rfl
  by_cases h11 : op = 11
  · subst h11; rfl
  by_cases h12 : op = 12
  · subst h12; rfl
  rw [beq_false_of_ne h1, beq_false_of_ne h11, beq_false_of_ne h12]
  simp only [cond_false]
  by_cases h2 : op = 2
  · subst h2
    simp only [beq_self_eq_true, cond_true]
    cases B == 0 <;> cases decide (A ≥ -63) <;> cases decide (A ≤ 63) <;> rfl
  by_cases h5 : op = 5
  · subst h5
    simp only [Int.reduceBEq, cond_true, cond_false]
    cases B == 0 <;> cases decide (A ≥ 0) <;> cases decide (A ≤ 63) <;> rfl
  by_cases h6 : op = 6
  · subst h6
    simp only [Int.reduceBEq, cond_true, cond_false]
    rw [show decide (A < 256) = decide (A ≤ 255) from decide_eq_decide.2 (by omega)]
    cases B == 0 <;> cases decide (A ≥ 0) <;> cases decide (A ≤ 255) <;> rfl
  by_cases h7 : op = 7
  · subst h7
    simp only [Int.reduceBEq, cond_true, cond_false]
    cases B == 0 <;> cases decide (A ≥ 0) <;> cases decide (A ≤ 4611686018427387904) <;> rfl
  rw [beq_false_of_ne h2, beq_false_of_ne h5, beq_false_of_ne h6, beq_false_of_ne h7]
  rfl
/-- What is known of a step that may be. -/
theorem may_out {n : Nat} {s : Step} (h : f26 n s = some true) : (1 ≤ s.1 ∧ s.1 ≤ 12) ∧ (s.1 = 2 → -63 ≤ s.2.1 ∧ s.2.1 ≤ 63) ∧ (s.1 = 5 → 0 ≤ s.2.1 ∧ s.2.1 ≤ 63) := by
  obtain ⟨op, A, B⟩ := s
  rw [f26_eq] at h
  simp only [f38_eq] at h
  refine ⟨?_, ?_, ?_⟩
  · refine Classical.byContradiction fun hn => ?_
    have e : ∀ k : Int, 1 ≤ k → k ≤ 12 → (op == k) = false := fun k h1 h2 => beq_false_of_ne (fun x => hn (x ▸ ⟨h1, h2⟩))
    rw [e 1 (by decide) (by decide), e 2 (by decide) (by decide), e 3 (by decide) (by decide), e 4 (by decide) (by decide), e 5 (by decide) (by decide), e 6 (by decide) (by decide), e 7 (by decide) (by decide),
      e 8 (by decide) (by decide), e 9 (by decide) (by decide), e 10 (by decide) (by decide), e 11 (by decide) (by decide), e 12 (by decide) (by decide)] at h
    cases h
  · intro h2
    have h2 : op = 2 := h2
    subst h2
    simp only [Int.reduceBEq, cond_true, cond_false] at h
    by_cases a1 : A ≥ -63
    · by_cases a2 : A ≤ 63
      · exact ⟨a1, a2⟩
      · rw [decide_eq_true a1, decide_eq_false a2] at h
        cases hb : B == 0 <;> rw [hb] at h <;> cases h
    · rw [decide_eq_false a1] at h
      cases hb : B == 0 <;> rw [hb] at h <;> cases h
  · intro h5
    have h5 : op = 5 := h5
    subst h5
    simp only [Int.reduceBEq, cond_true, cond_false] at h
    by_cases a1 : A ≥ 0
    · by_cases a2 : A ≤ 63
      · exact ⟨a1, a2⟩
      · rw [decide_eq_true a1, decide_eq_false a2] at h
        cases hb : B == 0 <;> rw [hb] at h <;> cases h
    · rw [decide_eq_false a1] at h
      cases hb : B == 0 <;> rw [hb] at h <;> cases h
theorem find_same (n : Nat) {l : List Step} (hl : l.length ≤ 256) : ∀ (k i m : Nat), i + k = l.length → k < m → ∃ r, f24a_4 n m l () l.length i = some r ∧ f9_8 n m l l.length i = some (bif decide (r ≥ 0) then (r, 80) else (0, 0)) := by
  intro k
  induction k with
  | zero =>
    intro i m hi hm
    obtain ⟨m, rfl⟩ : ∃ q, m = q + 1 := ⟨m - 1, by omega⟩
    rw [f24a_4_eq, f9_8_eq, decide_eq_false (show ¬ (i : Int) < (l.length : Int) by omega)]
    exact ⟨_, rfl, rfl⟩
  | succ k ih =>
    intro i m hi hm
    obtain ⟨m, rfl⟩ : ∃ q, m = q + 1 := ⟨m - 1, by omega⟩
    obtain ⟨r, h1, h2⟩ := ih (i + 1) m (by omega) (by omega)
    rw [show ((i + 1 : Nat) : Int) = (i : Int) + 1 by omega] at h1 h2
    obtain ⟨b, hb⟩ := may_some n (l.getD i s0)
    rw [f24a_4_eq, f9_8_eq, decide_eq_true (show (i : Int) < (l.length : Int) by omega), decide_eq_true (show (0 : Int) ≤ (i : Int) ∧ (i : Int) < (l.length : Int) by omega), wI (n := (i : Int) + 1) (by omega) (by omega)]
    simp only [cond_true, Int.toNat_natCast, f25_eq, ← may_same, hb, Option.bind_some]
    cases b with
    | true => exact ⟨r, h1, h2⟩
    | false =>
      refine ⟨_, rfl, ?_⟩
      rw [decide_eq_true (show (i : Int) ≥ 0 by omega)]
      rfl
theorem check_same {n : Nat} (hn : 257 ≤ n) (l : List Step) : f8 n l = f9 n l := by
  rw [f8_eq, f9_eq]
  by_cases h : (l.length : Int) > 256
  · rw [decide_eq_true h]
    rfl
  · rw [decide_eq_false h]
    obtain ⟨r, h1, h2⟩ := find_same n (l := l) (by omega) l.length 0 n (by omega) (by omega)
    rw [show ((0 : Nat) : Int) = 0 from rfl] at h1 h2
    rw [f24a_eq, h1, cond_false, cond_false, h2, Option.bind_some]
    cases decide (r ≥ 0) <;> rfl
theorem and_one {a : Int} : IntKind.i64.wrap ↑(BitVec.ofInt 64 a &&& BitVec.ofInt 64 1).toNat = a % 2 := by
  have e : (BitVec.ofInt 64 a &&& BitVec.ofInt 64 1).toNat = (a % 18446744073709551616).toNat % 2 := by
    rw [BitVec.toNat_and, BitVec.toNat_ofInt]
    show (a % 18446744073709551616).toNat &&& 1 = _
    rw [show (1 : Nat) = 2 ^ 1 - 1 from rfl, Nat.and_two_pow_sub_one_eq_mod]
  rw [e, wI (by omega) (by omega)]
  omega
theorem skip_eq (n : Nat) (how num : Int) (x : Around) : f36 n how num x = f32 n how num x.2.2 := by
  rw [f36_eq, f32_eq, and_one]
  have : (num % 2 == 1) = (num.tmod 2 != 0) := by
    have h : num.tmod 2 = 0 ↔ num % 2 = 0 := by
      rw [← Int.dvd_iff_emod_eq_zero]
      exact ⟨Int.dvd_of_tmod_eq_zero, Int.tmod_eq_zero_of_dvd⟩
    by_cases hm : num % 2 = 0
    · rw [hm, h.2 hm]; rfl
    · have h1 : num % 2 = 1 := by omega
      rw [h1]
      have : num.tmod 2 ≠ 0 := fun x => hm (h.1 x)
      simp [this]
  rw [this]
abbrev Out := Int × Int × Int × Int
theorem one_both {n : Nat} {l : List Step} {x : Around} (hlen : l.length ≤ 256) (hl : ∀ s ∈ l, f26 n s = some true) (hk : x.1.2.size ≤ reachBytes) (h16 : 0 ≤ x.1.1 ∧ x.1.1 ≤ 65535) (hn : x.1.2.size + 300 ≤ n) {c : Cook} (hc : 0 ≤ c.1 ∧ c.1 ≤ (l.length : Int)) (hi : i64 c.2.1) :
    ∃ r, f22 n l c x = some r ∧ f14 n l c x = some r ∧ i64 r.1.2.1 := by
  rw [f22_eq, f14_eq]
  by_cases h0 : c.1 = (l.length : Int)
  · rw [h0, beq_self_eq_true, decide_eq_true (show (l.length : Int) ≥ (l.length : Int) by omega)]
    exact ⟨_, rfl, rfl, by show i64 0; constructor <;> omega⟩
  have h1 : 0 ≤ c.1 ∧ c.1 < (l.length : Int) := ⟨hc.1, by omega⟩
  have hm : l.getD c.1.toNat s0 ∈ l := by
    rw [List.getD_eq_getElem?_getD, List.getElem?_eq_getElem (by omega)]
    simp
  have hs := hl _ hm
  rw [beq_false_of_ne h0, decide_eq_true h1, decide_eq_false (show ¬ c.1 ≥ (l.length : Int) by omega), wI (n := c.1 + 1) (by omega) (by omega)]
  generalize List.getD l c.1.toNat s0 = s at *
  have h9 := may_skip (n := n) (s := s) hs
  obtain ⟨hop, hm2, hm5⟩ := may_out hs
  obtain ⟨op, A, B⟩ := s
  simp only at h9 hop hm2 hm5
  simp only [cond_false, cond_true, f35_eq, f37_eq, skip_eq, Option.bind_some]
  have i0 : i64 0 := by constructor <;> omega
  have hcase : op = 1 ∨ op = 2 ∨ op = 3 ∨ op = 4 ∨ op = 5 ∨ op = 6 ∨ op = 7 ∨ op = 8 ∨ op = 9 ∨ op = 10 ∨ op = 11 ∨ op = 12 := by omega
  rcases hcase with rfl | rfl | rfl | rfl | rfl | rfl | rfl | rfl | rfl | rfl | rfl | rfl <;> simp only [Int.reduceBEq, cond_true, cond_false]
  · exact ⟨_, rfl, rfl, wI_i64 _⟩
  · obtain ⟨r, h2, h3⟩ := shift_i64 (n := n) (by omega) hi (hm2 rfl)
    rw [shift_same (by omega) hi (hm2 rfl), h2]
    exact ⟨_, rfl, rfl, h3⟩
  · obtain ⟨r, h2⟩ := hash_some (n := n) hk (by omega)
    rw [← hash_same hk h16 (by omega), h2]
    exact ⟨_, rfl, rfl, wI_i64 _⟩
  · exact ⟨_, rfl, rfl, wI_i64 _⟩
  · obtain ⟨r, h2⟩ := turn_some n (IntKind.u64.wrap c.2.1) A
    rw [← turn_same (by omega) (hm5 rfl), h2]
    exact ⟨_, rfl, rfl, wI_i64 _⟩
  · exact ⟨_, rfl, rfl, hi⟩
  · exact ⟨_, rfl, rfl, hi⟩
  · cases x.2.2 with
    | true => exact ⟨_, rfl, rfl, i0⟩
    | false => exact ⟨_, rfl, rfl, hi⟩
  · obtain ⟨_, _, hB⟩ := h9 rfl
    obtain ⟨q, hq⟩ := skip_some n A c.2.1 x
    rw [skip_eq] at hq
    rw [hq, wI (n := c.1 + 1 + B) (by omega) (by omega)]
    simp only [Option.bind_some]
    cases q with
    | false => exact ⟨_, rfl, rfl, hi⟩
    | true =>
      simp only [cond_true]
      by_cases h2 : c.1 + 1 + B > (l.length : Int)
      · rw [decide_eq_true h2, if_neg (by omega)]
        exact ⟨_, rfl, rfl, hi⟩
      · rw [decide_eq_false h2]
        by_cases h3 : c.1 + 1 + B < (l.length : Int)
        · rw [if_pos h3]
          exact ⟨_, rfl, rfl, hi⟩
        · rw [if_neg h3, show c.1 + 1 + B = (l.length : Int) by omega]
          exact ⟨_, rfl, rfl, hi⟩
  · exact ⟨_, rfl, rfl, i0⟩
  · exact ⟨_, rfl, rfl, i0⟩
  · exact ⟨_, rfl, rfl, i0⟩
section
variable {n : Nat} {l : List Step} {x : Around}
theorem on_both (hlen : l.length ≤ 256) (hl : ∀ s ∈ l, f26 n s = some true) (hk : x.1.2.size ≤ reachBytes) (h16 : 0 ≤ x.1.1 ∧ x.1.1 ≤ 65535) (hn : x.1.2.size + 300 ≤ n) (b6 b7 d6 d7 : Cook) (x9 : Int) :
    ∀ (k m : Nat) (c : Cook), 0 ≤ c.1 → c.1 ≤ (l.length : Int) → i64 c.2.1 → (l.length : Int) - c.1 ≤ k → k < m →
    ∃ r : Cook × Out × Bool, f12_8 n m l false x9 c x b6 b7 = some (r.1, r.2.1, r.2.2, 0) ∧ f18_2 n m l false c x d6 d7 = some r := by
  intro k
  induction k with
  | zero =>
    intro m c h0 h1 hi h2 hm
    obtain ⟨m, rfl⟩ : ∃ q, m = q + 1 := ⟨m - 1, by omega⟩
    obtain ⟨r, hr, hr2, _⟩ := one_both hlen hl hk h16 hn ⟨h0, h1⟩ hi
    obtain ⟨r', hr', hc⟩ := one_some (n := n) hlen (fun s hs h9 => (may_skip (hl s hs) h9).2.2) hk (by omega) (c := c) ⟨h0, h1⟩
    rw [hr] at hr'
    cases hr'
    rw [f12_8_eq, f18_2_eq, hr, hr2]
    rcases hc with hc | hc
    · simp only [Option.bind_some, hc, cond_true]
      exact ⟨(r.1, r.2.1, true), rfl, rfl⟩
    · omega
  | succ k ih =>
    intro m c h0 h1 hi h2 hm
    obtain ⟨m, rfl⟩ : ∃ q, m = q + 1 := ⟨m - 1, by omega⟩
    obtain ⟨r, hr, hr2, hri⟩ := one_both hlen hl hk h16 hn ⟨h0, h1⟩ hi
    obtain ⟨r', hr', hc⟩ := one_some (n := n) hlen (fun s hs h9 => (may_skip (hl s hs) h9).2.2) hk (by omega) (c := c) ⟨h0, h1⟩
    rw [hr] at hr'
    cases hr'
    rw [f12_8_eq, f18_2_eq, hr, hr2]
    simp only [Option.bind_some]
    cases he : r.2.2 with
    | true => exact ⟨(r.1, r.2.1, true), rfl, rfl⟩
    | false =>
      simp only [cond_false]
      cases hw : r.1.2.2.1 != 0 with
      | true => exact ⟨(r.1, r.2.1, false), rfl, rfl⟩
      | false =>
        rcases hc with hc | hc
        · rw [hc] at he; cases he
        · exact ih m r.1 (by omega) hc.2 hri (by omega) (by omega)
end
theorem given_all (n : Nat) {l : List Step} (hl : l.length * 24 ≤ 140737488351232) {m : Nat} (hm : l.length + 1 ≤ m) : f10_6 n m l l.length 0 [] = some l := by
  obtain ⟨s, m1, h1, h2, h3⟩ := loopN (G := fun m i (a : List Step) => f10_6 n m l l.length i a) (I := fun i a => a = l.take i) (len := l.length) (c := 1)
    (by
      intro m i a hi hI hm
      obtain ⟨m, rfl⟩ : ∃ q, m = q + 1 := ⟨m - 1, by omega⟩
      refine ⟨_, m, rfl, by omega, ?_⟩
      have hlen : a.length = i := by rw [hI]; simp; omega
      show f10_6 n (m + 1) l l.length i a = _
      have e : l.take (i + 1) = a ++ [l.getD i s0] := by
        rw [hI, List.take_add_one, List.getD_eq_getElem?_getD, List.getElem?_eq_getElem hi]
        simp
      rw [f10_6_eq, decide_eq_true (show (i : Int) < (l.length : Int) by omega), decide_eq_true (show (0 : Int) ≤ (i : Int) ∧ (i : Int) < (l.length : Int) by omega), wI (n := (i : Int) + 1) (by omega) (by omega), e,
        decide_eq_true (show (a.length + [l.getD (i : Int).toNat s0].length) * 24 ≤ Go.Rf.maxBytes by show (a.length + 1) * 24 ≤ 140737488355328; omega)]
      rfl)
    l.length 0 m [] (by omega) (by rw [List.take_zero]) (by omega)
  obtain ⟨m1, rfl⟩ : ∃ q, m1 = q + 1 := ⟨m1 - 1, by omega⟩
  rw [show ((0 : Nat) : Int) = 0 from rfl] at h3
  refine h3.trans ?_
  rw [List.take_length] at h1
  show f10_6 n (m1 + 1) l l.length (l.length : Nat) s = _
  rw [f10_6_eq, decide_eq_false (show ¬ (l.length : Int) < (l.length : Int) by omega), cond_false, h1]
theorem same_all {n : Nat} {l : List Step} (hl : l.length ≤ 9223372036854775807) (hn : l.length + 1 ≤ n) : f13 n l l = some true := by
  rw [f13_eq, bne_self_eq_false, cond_false]
  obtain ⟨s, m1, _, h2, h3⟩ := loopN (G := fun m i (_ : Unit) => f13_8 n m l l l.length i) (I := fun _ _ => True) (len := l.length) (c := 1)
    (by
      intro m i _ hi _ hm
      obtain ⟨m, rfl⟩ : ∃ q, m = q + 1 := ⟨m - 1, by omega⟩
      refine ⟨(), m, trivial, by omega, ?_⟩
      show f13_8 n (m + 1) l l l.length i = _
      rw [f13_8_eq, decide_eq_true (show (i : Int) < (l.length : Int) by omega), decide_eq_true (show (0 : Int) ≤ (i : Int) ∧ (i : Int) < (l.length : Int) by omega), wI (n := (i : Int) + 1) (by omega) (by omega)]
      simp only [cond_true, beq_self_eq_true, Bool.and_self, Bool.not_true, cond_false]
      rfl)
    l.length 0 n () (by omega) trivial (by omega)
  obtain ⟨m1, rfl⟩ : ∃ q, m1 = q + 1 := ⟨m1 - 1, by omega⟩
  rw [show ((0 : Nat) : Int) = 0 from rfl] at h3
  refine h3.trans ?_
  show f13_8 n (m1 + 1) l l l.length (l.length : Nat) = _
  rw [f13_8_eq, decide_eq_false (show ¬ (l.length : Int) < (l.length : Int) by omega), cond_false]
abbrev zc : Cook := (0, 0, 0, 0)
/-- Where a recipe or a state may not be. -/
theorem bad_law (n m : Nat) {l : List Step} {c : Cook} {x : Around} {want : Int} (h0 : want ≠ 0) : f4_31 n (m + 1) l false want false false want want c x zc zc zc zc = some true := by
  have e : (want != 0) = true := by simp [h0]
  rw [f4_31_eq, e]
  simp only [cond_true, Bool.not_false, beq_self_eq_true, Bool.and_self]
theorem recipe_does {n : Nat} {l : List Step} {c : Cook} {x : Around} (hl : l.length * 24 ≤ 140737488351232) (hc : i64 c.2.1) (hk : x.1.2.size ≤ reachBytes) (h16 : 0 ≤ x.1.1 ∧ x.1.1 ≤ 65535) (hn : l.length + x.1.2.size + 310 ≤ n) : f4 n l c x = some true := by
  have haw : f6 n = some true := by
    obtain ⟨q, rfl⟩ : ∃ q, n = q + 12 := ⟨n - 12, by omega⟩
    exact awake_recipe q
  have hg : f10 n l = some l := by rw [f10_eq]; exact given_all n hl (by omega)
  obtain ⟨q, hq, hmay⟩ := check_go (n := n) (by omega) l
  have hq9 : f9 n l = some q := (check_same (by omega) l).symm.trans hq
  rw [f4_eq, decide_eq_true (show (0 + l.length) * 24 ≤ Go.Rf.maxBytes by show (0 + l.length) * 24 ≤ 140737488355328; omega), cond_true, hq, Option.bind_some, hg, Option.bind_some, hq9, Option.bind_some, haw, Option.bind_some]
  simp only [Bool.not_true, cond_false, bne_self_eq_false, List.nil_append]
  have e0 : f4_13 n n l false q.2 c x l = f4_13 n (n - 1 + 1) l false q.2 c x l := by rw [show n - 1 + 1 = n by omega]
  rw [e0, f4_13_eq]
  have hsame := same_all (n := n) (l := l) (by omega) (by omega)
  have refuse : ∀ want : Int, want ≠ 0 → f28 n l c = some want → f11 n l c x = some (zc, zc, false, want) ∧ f12 n l c x = some (zc, zc, false, want) := by
    intro want hw h28
    have e : (want != 0) = true := by simp [hw]
    rw [f11_eq, f12_eq, h28]
    rw [Option.bind_some, Option.bind_some, e, cond_true, cond_true]
    exact ⟨rfl, rfl⟩
  obtain ⟨m, hm⟩ : ∃ m, n - 1 = m + 2 := ⟨n - 3, by omega⟩
  rw [hm]
  by_cases hf : q.2 = 0
  · obtain ⟨hlen, hall⟩ := hmay hf
    by_cases hbad : c.1 < 0 ∨ c.1 > (l.length : Int) ∨ c.2.2.1 ≠ 0
    · have h28 : f28 n l c = some 1 := by
        rw [f28_eq, hq, Option.bind_some, hf, bne_self_eq_false, cond_false]
        by_cases a1 : c.1 < 0
        · rw [decide_eq_true a1]; rfl
        · rw [decide_eq_false a1]
          by_cases a2 : c.1 > (l.length : Int)
          · rw [decide_eq_true a2]; rfl
          · rw [decide_eq_false a2]
            have e : (c.2.2.1 != 0) = true := by
              have : c.2.2.1 ≠ 0 := by
                rcases hbad with h | h | h
                · exact absurd h a1
                · exact absurd h a2
                · exact h
              simp [this]
            rw [e]
            rfl
      obtain ⟨r1, r2⟩ := refuse 1 (by decide) h28
      rw [r1, Option.bind_some, r2, Option.bind_some, hg, Option.bind_some, hsame, Option.bind_some]
      simp only [Bool.not_true, cond_false]
      rw [hf, bne_self_eq_false, cond_false]
      have fin := bad_law n (m + 1) (l := l) (c := c) (x := x) (want := 1) (by decide)
      by_cases a1 : c.1 < 0
      · rw [decide_eq_true a1, cond_true]; exact fin
      · rw [decide_eq_false a1, cond_false]
        by_cases a2 : c.1 > (l.length : Int)
        · rw [decide_eq_true a2, cond_true]; exact fin
        · rw [decide_eq_false a2, cond_false]
          have e : (c.2.2.1 != 0) = true := by
            have : c.2.2.1 ≠ 0 := by
              rcases hbad with h | h | h
              · exact absurd h a1
              · exact absurd h a2
              · exact h
            simp [this]
          rw [e, cond_true]
          exact fin
    · have a1 : ¬ c.1 < 0 := fun h => hbad (.inl h)
      have a2 : ¬ c.1 > (l.length : Int) := fun h => hbad (.inr (.inl h))
      have a3 : c.2.2.1 = 0 := Classical.byContradiction fun h => hbad (.inr (.inr h))
      have h28 : f28 n l c = some 0 := by
        rw [f28_eq, hq, Option.bind_some, hf, bne_self_eq_false, cond_false, decide_eq_false a1, cond_false, decide_eq_false a2, cond_false, a3, bne_self_eq_false, cond_false]
      obtain ⟨r, hr, hr2, _⟩ := one_both (n := n) (c := c) hlen hall hk h16 (by omega) ⟨by omega, by omega⟩ hc
      obtain ⟨p, hp, hp2⟩ := on_both (n := n) hlen hall hk h16 (by omega) zc zc zc zc 0 l.length n c (by omega) (by omega) hc (by omega) (by omega)
      have h11 : f11 n l c x = some (r.1, r.2.1, r.2.2, 0) := by
        rw [f11_eq, h28]
        simp only [Option.bind_some, bne_self_eq_false, cond_false, hr]
      have h12 : f12 n l c x = some (p.1, p.2.1, p.2.2, 0) := by
        rw [f12_eq, h28]
        simp only [Option.bind_some, bne_self_eq_false, cond_false]
        exact hp
      have h18 : f18 n l c x = some p := by
        rw [f18_eq]
        exact hp2
      rw [h11, Option.bind_some, h12, Option.bind_some, hg, Option.bind_some, hsame, Option.bind_some]
      simp only [Bool.not_true, cond_false]
      rw [hf, bne_self_eq_false, cond_false, decide_eq_false a1, cond_false, decide_eq_false a2, cond_false, a3, bne_self_eq_false, cond_false]
      rw [f4_31_eq, bne_self_eq_false, cond_false, hg, Option.bind_some, f15_eq, Option.bind_some, f16_eq, Option.bind_some, hr2, Option.bind_some, f15_eq, Option.bind_some, f17_eq, Option.bind_some]
      simp only [beq_self_eq_true, Bool.and_self, Bool.not_true, cond_false]
      rw [f4_41_eq, hg, Option.bind_some, f15_eq, Option.bind_some, f16_eq, Option.bind_some, h18, Option.bind_some, f15_eq, Option.bind_some, f17_eq, Option.bind_some]
      simp only [beq_self_eq_true, Bool.and_self, cond_true]
  · have e : (q.2 != 0) = true := by simp [hf]
    have h28 : f28 n l c = some 80 := by
      rw [f28_eq, hq, Option.bind_some, e, cond_true]
    obtain ⟨r1, r2⟩ := refuse 80 (by decide) h28
    rw [r1, Option.bind_some, r2, Option.bind_some, hg, Option.bind_some, hsame, Option.bind_some]
    simp only [Bool.not_true, cond_false]
    rw [e, cond_true]
    exact bad_law n (m + 1) (by decide)
end Go.Proofs.Ytapackaajegjnaa
