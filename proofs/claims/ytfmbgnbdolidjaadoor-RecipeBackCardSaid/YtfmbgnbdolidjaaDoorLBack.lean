/- The law RecipeBack: what is told is read; step by step a recipe comes to what On tells. -/
import Derived.Test.YtfmbgnbdolidjaaDoorLTexts
namespace Go.Proofs.YtfmbgnbdolidjaaDoor
open Go.Rf Go.Lib
/-- The numbers that are not told are zero. -/
theorem may_zero {n : Nat} {s : Step} (h : f33 n s = some true) : (mn (kOf s) = 0 → s.2.1 = 0 ∧ s.2.2 = 0) ∧ (mn (kOf s) = 1 → s.2.2 = 0) := by
  have ho := (may_out h).1
  obtain ⟨op, A, B⟩ := s
  have ho : 1 ≤ op ∧ op ≤ 12 := ho
  rw [f33_eq] at h
  simp only [f45_eq] at h
  have hB : mn (kOf (op, A, B)) ≤ 1 → B = 0 := by
    intro hm
    refine Classical.byContradiction fun hB => ?_
    have hB := beq_false_of_ne hB
    rcases (show op = 1 ∨ op = 2 ∨ op = 3 ∨ op = 4 ∨ op = 5 ∨ op = 6 ∨ op = 7 ∨ op = 8 ∨ op = 9 ∨ op = 10 ∨ op = 11 ∨ op = 12 by omega) with e | e | e | e | e | e | e | e | e | e | e | e <;>
      (subst e; simp only [Int.reduceBEq, cond_true, cond_false, hB] at h) <;>
      first
        | (exact absurd (show (2 : Nat) ≤ 1 from hm) (by decide))
        | (cases h; done)
        | (cases hA : A == 0 <;> rw [hA] at h <;> cases h)
  refine ⟨fun hm => ⟨?_, hB (by omega)⟩, fun hm => hB (by omega)⟩
  refine Classical.byContradiction fun hA => ?_
  have hA2 : (A == 0) = false := beq_false_of_ne (show A ≠ 0 from hA)
  rcases (show op = 1 ∨ op = 2 ∨ op = 3 ∨ op = 4 ∨ op = 5 ∨ op = 6 ∨ op = 7 ∨ op = 8 ∨ op = 9 ∨ op = 10 ∨ op = 11 ∨ op = 12 by omega) with e | e | e | e | e | e | e | e | e | e | e | e <;>
    (subst e; simp only [Int.reduceBEq, cond_true, cond_false] at h) <;>
    first
      | (exact absurd (show (1 : Nat) = 0 from hm) (by decide))
      | (exact absurd (show (2 : Nat) = 0 from hm) (by decide))
      | (rw [hA2] at h; cases h; done)
theorem num_say (n : Nat) {v : Int} (h : i64 v) : f40 n (bs (itoa v)) = some (v, true) := by
  have hl := itoa_len h
  rcases num_go n (w := itoa v) (by omega) with ⟨u, hu, e, h1⟩ | ⟨_, hno⟩
  · have := itoa_inj h hu e
    rw [this]
    rw [this] at h1
    exact h1
  · exact (hno v h rfl).elim
theorem end22 (n m : Nat) (k : Nat) (b1 : List ByteArray × P3) (b2 x : Step) : f24o_22 n (m + 1) () ((mn k : Nat) : Int) ((mn k : Nat) : Int) b1 b2 x = some (((x, 0, true), (b1, ()))) := by
  rw [f24o_22_eq, decide_eq_false (by omega)]
  rfl
/-- Whether the step may be, asked behind each number. -/
theorem ask_one {n : Nat} {s : Step} (h : f33 n s = some true) (hF : Fine s) (h1 : mn (kOf s) = 1) : f41 n s 0 = some true := by
  have h9 : kOf s ≠ 9 := fun e => by rw [e] at h1; cases h1
  have hk := hF.k
  rw [f41_eq, h, beq_false_of_ne (show s.1 ≠ 9 by omega)]
  rfl
theorem ask_skip0 {n : Nat} {s : Step} (h : f33 n s = some true) (hF : Fine s) (h2 : mn (kOf s) = 2) : f41 n (s.1, s.2.1, 0) 0 = some true := by
  have h9 := (mn_two hF.k1 hF.k2).1 h2
  have hk := hF.k
  have e : s.1 = 9 := by omega
  obtain ⟨a1, a2, _, _⟩ := may_skip h e
  rw [f41_eq]
  simp only [e]
  rw [may_skip1, decide_eq_true (show 0 ≤ s.2.1 ∧ s.2.1 ≤ 3 from ⟨a1, a2⟩)]
  rfl
theorem ask_skip1 {n : Nat} {s : Step} (h : f33 n s = some true) : f41 n s 1 = some true := by
  rw [f41_eq, h]
  cases s.1 == 9 <;> rfl
/-- A step that was told is read. -/
theorem step_back {n : Nat} (hn : 100 ≤ n) {s : Step} (hm : f33 n s = some true) (hF : Fine s) (ws : Ws) (p L : Nat) (hp : p ≤ 1000000) (hl : ws.length ≤ 1000000) :
    ∃ q : Nat, q ≤ p + 100 ∧ f24o n ((wordsOf s ++ ws).map bs) (((p : Nat) : Int), ((L : Nat) : Int)) = some (((s, 0, true), ((ws.map bs, ((q : Nat) : Int), ((L : Nat) : Int)), ()))) := by
  have hw := wd_len (kOf s)
  have ha := itoa_len hF.a
  have hb := itoa_len hF.b
  have hmn := mn_le (kOf s)
  have hnl := nums_len s
  obtain ⟨z0, z1⟩ := may_zero hm
  have e0 : (wordsOf s ++ ws).map bs = bs (wd (kOf s)) :: ((numsOf s).map itoa ++ ws).map bs := by simp [wordsOf]
  rw [e0, step_go (by omega) (by simp; omega)]
  rcases find_both (n := n) (by omega) (wd (kOf s)) ((p : Nat) : Int) (((numsOf s).map itoa ++ ws).map bs, ((p + (wd (kOf s)).length + 1 : Nat) : Int), ((L : Nat) : Int)) (0, 0, 0) with ⟨k, h1, h2, h3, ⟨m', hm', g1⟩, _⟩ | ⟨_, _, hno⟩
  · have hk : k = kOf s := wd_inj h1 h2 hF.k1 hF.k2 h3
    subst hk
    rw [g1]
    obtain ⟨m, rfl⟩ : ∃ q, m' = q + 1 + 1 + 1 := ⟨m' - 3, by omega⟩
    have hs : ∀ A B, s.2.1 = A → s.2.2 = B → (((kOf s : Nat) : Int), A, B) = s := fun A B e1 e2 => Prod.ext hF.k.symm (Prod.ext e1.symm e2.symm)
    rcases (show mn (kOf s) = 0 ∨ mn (kOf s) = 1 ∨ mn (kOf s) = 2 by omega) with e | e | e
    · have hz := z0 e
      have en : numsOf s = [] := by unfold numsOf; rw [e]; rfl
      rw [en, hs 0 0 hz.1 hz.2]
      have := end22 n (m + 1 + 1) (kOf s) ((([] : List Int).map itoa ++ ws).map bs, ((p + (wd (kOf s)).length + 1 : Nat) : Int), ((L : Nat) : Int)) (0, 0, 0) s
      rw [e] at this ⊢
      exact ⟨p + (wd (kOf s)).length + 1, by omega, this⟩
    · have hz := z1 e
      have en : numsOf s = [s.2.1] := by unfold numsOf; rw [e]; rfl
      have ep : putN 0 s.2.1 (((kOf s : Nat) : Int), 0, 0) = s := hs s.2.1 0 rfl hz
      have hg := go_num (n := n) (k := kOf s) (j := 0) (by omega) (m + 1 + 1) (w := itoa s.2.1) (ws := ws) (p := p + (wd (kOf s)).length + 1) (L := L) (0, 0, 0) 0 0 (by omega) (by omega) (v := s.2.1) (ok := true) (q := true) (num_say n hF.a) (fun _ => by rw [ep]; exact ask_one hm hF e)
      rw [ep, Bool.and_self, cond_true] at hg
      have := end22 n (m + 1) (kOf s) (ws.map bs, ((p + (wd (kOf s)).length + 1 + (itoa s.2.1).length + 1 : Nat) : Int), ((L : Nat) : Int)) (0, 0, 0) s
      rw [en]
      rw [e] at this hg ⊢
      exact ⟨p + (wd (kOf s)).length + 1 + (itoa s.2.1).length + 1, by omega, hg.trans this⟩
    · have en : numsOf s = [s.2.1, s.2.2] := by unfold numsOf; rw [e]; rfl
      have ep0 : putN 0 s.2.1 (((kOf s : Nat) : Int), 0, 0) = (((kOf s : Nat) : Int), s.2.1, 0) := rfl
      have ep1 : putN 1 s.2.2 (((kOf s : Nat) : Int), s.2.1, 0) = s := hs s.2.1 s.2.2 rfl rfl
      have hg := go_num (n := n) (k := kOf s) (j := 0) (by omega) (m + 1 + 1) (w := itoa s.2.1) (ws := itoa s.2.2 :: ws) (p := p + (wd (kOf s)).length + 1) (L := L) (0, 0, 0) 0 0 (by omega) (by simp; omega) (v := s.2.1) (ok := true) (q := true) (num_say n hF.a) (fun _ => by rw [ep0, ← hF.k]; exact ask_skip0 hm hF e)
      rw [ep0, Bool.and_self, cond_true] at hg
      have hg2 := go_num (n := n) (k := kOf s) (j := 1) (by omega) (m + 1) (w := itoa s.2.2) (ws := ws) (p := p + (wd (kOf s)).length + 1 + (itoa s.2.1).length + 1) (L := L) (0, 0, 0) s.2.1 0 (by omega) (by omega) (v := s.2.2) (ok := true) (q := true) (num_say n hF.b) (fun _ => by rw [ep1]; exact ask_skip1 hm)
      rw [ep1, Bool.and_self, cond_true] at hg2
      have := end22 n m (kOf s) (ws.map bs, ((p + (wd (kOf s)).length + 1 + (itoa s.2.1).length + 1 + (itoa s.2.2).length + 1 : Nat) : Int), ((L : Nat) : Int)) (0, 0, 0) s
      rw [en]
      rw [e] at this hg hg2 ⊢
      exact ⟨p + (wd (kOf s)).length + 1 + (itoa s.2.1).length + 1 + (itoa s.2.2).length + 1, by omega, (hg.trans hg2).trans this⟩
  · exact (hno (kOf s) hF.k1 hF.k2 rfl).elim
theorem wordsL_cons (s : Step) (l : List Step) : wordsL (s :: l) = wordsOf s ++ wordsL l := by simp [wordsL]
theorem back_loop {n : Nat} (hn : 100 ≤ n) (L : Nat) : ∀ (l acc : List Step) (p M : Nat), (∀ s ∈ l, f33 n s = some true) → (∀ s ∈ l, Fine s) → acc.length + l.length ≤ 256 → p + 100 * l.length ≤ 100000 → l.length + 1 ≤ M →
    f10_10 n M acc ((wordsL l).map bs, ((p : Nat) : Int), ((L : Nat) : Int)) = some (acc ++ l, 0, 0)
  | [], acc, p, M, _, _, hacc, _, hM => by
    obtain ⟨M, rfl⟩ : ∃ q, M = q + 1 := ⟨M - 1, by simp at hM; omega⟩
    have hacc : acc.length ≤ 256 := by simpa using hacc
    rw [show (wordsL []).map bs = [] from rfl, end_go, decide_eq_false (by omega), List.append_nil]
    rfl
  | s :: l, acc, p, M, hm, hf, hacc, hp, hM => by
    simp only [List.length_cons] at hacc hp hM
    obtain ⟨M, rfl⟩ : ∃ q, M = q + 1 := ⟨M - 1, by omega⟩
    have hwl := words_len (l := l)
    obtain ⟨q, hq, h1⟩ := step_back hn (hm s (by simp)) (hf s (by simp)) (wordsL l) p L (by omega) (by omega)
    rw [f10_10_eq, wordsL_cons, h1]
    have hpos : decide ((((wordsOf s ++ wordsL l).map bs).length : Int) > 0) = true := decide_eq_true (by
      rw [List.length_map, List.length_append]
      show (((wd (kOf s) :: (numsOf s).map itoa).length + (wordsL l).length : Nat) : Int) > 0
      rw [List.length_cons]
      omega)
    have hfit : decide ((acc.length + [s].length) * (24 : Nat) ≤ maxBytes) = true := fits24 (by omega)
    rw [hpos]
    simp only [cond_true, Option.bind_some, Bool.not_true, cond_false]
    rw [hfit, cond_true, back_loop hn L l (acc ++ [s]) q M (fun x hx => hm x (by simp [hx])) (fun x hx => hf x (by simp [hx])) (by simp; omega) (by omega) (by omega)]
    simp
theorem dec_nosp (u : Nat) : (32 : UInt8) ∉ decDigits u := fun h => by
  have := dec_digs u _ h
  unfold isDig at this
  revert this
  decide
theorem itoa_nosp (v : Int) : (32 : UInt8) ∉ itoa v := by
  unfold itoa
  split
  · intro h
    rcases List.mem_cons.1 h with h | h
    · revert h; decide
    · exact dec_nosp _ h
  · exact dec_nosp _
theorem words_nosp {l : List Step} (h : ∀ s ∈ l, Fine s) : NoSp (wordsL l) := by
  intro w hw
  obtain ⟨s, hs, hw⟩ := List.mem_flatMap.1 hw
  rcases List.mem_cons.1 (show w ∈ wd (kOf s) :: (numsOf s).map itoa from hw) with rfl | hw
  · have hF := h s hs
    rcases k_cases hF.k1 hF.k2 with e | e | e | e | e | e | e | e | e | e | e | e <;> rw [e] <;> decide
  · obtain ⟨v, _, rfl⟩ := List.mem_map.1 hw
    exact itoa_nosp v
/-- What is told is read. -/
theorem read_back {n : Nat} (hn : 10000 ≤ n) {l : List Step} (hl : l.length ≤ 256) (hm : ∀ s ∈ l, f33 n s = some true) (hf : ∀ s ∈ l, Fine s) : f10 n (bs (jn (wordsL l))) = some (l, 0, 0) := by
  rw [f10_eq, bs_empty, eqBA]
  cases l with
  | nil => rfl
  | cons s r =>
    have hne : wordsL (s :: r) ≠ [] := by rw [wordsL_cons]; simp [wordsOf]
    have h2 := tl_wordsL hf
    have h3 := jn_le (wordsL (s :: r))
    simp only [List.length_cons] at hl h2
    rw [decide_eq_false (fun h => hne ((jn_first hf).1 h)), cond_false, split_go n hne (words_nosp hf) (by omega), bs_size]
    simp only [Option.bind_some]
    have := back_loop (n := n) (by omega) (jn (wordsL (s :: r))).length (s :: r) [] 0 n hm hf (by simp; omega) (by simp; omega) (by simp; omega)
    rw [List.nil_append] at this
    exact this
/-! ### step by step -/
section
variable {n : Nat} {l : List Step} {x : Around}
theorem right_ok (h : f16 n l = some (0, 0)) {c : Cook} (h0 : 0 ≤ c.1) (h1 : c.1 ≤ (l.length : Int)) (hw : c.2.2.1 = 0) : f28 n l c = some 0 := by
  rw [f28_eq, h]
  simp only [Option.bind_some, bne_self_eq_false, cond_false]
  rw [decide_eq_false (show ¬ c.1 < 0 by omega), decide_eq_false (show ¬ c.1 > (l.length : Int) by omega), hw]
  rfl
theorem on_some (hlen : l.length ≤ 256) (hl : ∀ s ∈ l, s.1 = 9 → 1 ≤ s.2.2 ∧ s.2.2 ≤ 256) (hk : x.1.2.size ≤ reachBytes) (hn : x.1.2.size + 4 ≤ n) (b6 b7 : Cook) (x8 : Bool) (x9 : Int) : ∀ (k m : Nat) (c : Cook), 0 ≤ c.1 → c.1 ≤ (l.length : Int) → (l.length : Int) - c.1 ≤ k → k < m →
    ∃ d o e, f13_8 n m l x8 x9 c x b6 b7 = some (d, o, e, 0) := by
  intro k
  induction k with
  | zero =>
    intro m c h0 h1 h2 hm
    obtain ⟨m, rfl⟩ : ∃ q, m = q + 1 := ⟨m - 1, by omega⟩
    obtain ⟨r, hr, hc⟩ := one_some hlen hl hk hn (c := c) ⟨h0, h1⟩
    rw [f13_8_eq, hr]
    rcases hc with hc | hc
    · simp only [Option.bind_some, hc, cond_true]; exact ⟨_, _, _, rfl⟩
    · omega
  | succ k ih =>
    intro m c h0 h1 h2 hm
    obtain ⟨m, rfl⟩ : ∃ q, m = q + 1 := ⟨m - 1, by omega⟩
    obtain ⟨r, hr, hc⟩ := one_some hlen hl hk hn (c := c) ⟨h0, h1⟩
    rw [f13_8_eq, hr]
    simp only [Option.bind_some]
    cases he : r.2.2 with
    | true => exact ⟨_, _, _, rfl⟩
    | false =>
      rcases hc with hc | hc
      · rw [hc] at he; cases he
      · simp only [cond_false]
        cases r.1.2.2.1 != 0 with
        | true => exact ⟨_, _, _, rfl⟩
        | false => exact ih m r.1 (by omega) hc.2 (by omega) (by omega)
theorem steps_loop (hc : f16 n l = some (0, 0)) (hlen : l.length ≤ 256) (hl : ∀ s ∈ l, s.1 = 9 → 1 ≤ s.2.2 ∧ s.2.2 ≤ 256) (hk : x.1.2.size ≤ reachBytes) (hn : x.1.2.size + 300 ≤ n) : ∀ (k i m : Nat) (c : Cook), i + k = l.length → (i : Int) ≤ c.1 → c.1 ≤ (l.length : Int) → c.2.2.1 = 0 → k < m →
    f4_24 n m l ((i : Nat) : Int) x c = some true := by
  intro k
  induction k with
  | zero =>
    intro i m c hi h0 h1 hw hm
    obtain ⟨m, rfl⟩ : ∃ q, m = q + 1 := ⟨m - 1, by omega⟩
    obtain ⟨r, hr, hd⟩ := one_some (n := n) hlen hl hk (by omega) (c := c) ⟨by omega, h1⟩
    obtain ⟨n, rfl⟩ : ∃ q, n = q + 1 := ⟨n - 1, by omega⟩
    rcases hd with hd | hd
    · rw [f4_24_eq, f13_eq, f14_eq, right_ok hc (by omega) h1 hw, decide_eq_true (by omega)]
      simp only [Option.bind_some, bne_self_eq_false, cond_false, cond_true]
      rw [f13_8_eq, hr]
      simp only [Option.bind_some, hd, cond_true, bne_self_eq_false, cond_false, beq_self_eq_true, Bool.and_self]
    · omega
  | succ k ih =>
    intro i m c hi h0 h1 hw hm
    obtain ⟨m, rfl⟩ : ∃ q, m = q + 1 := ⟨m - 1, by omega⟩
    obtain ⟨r, hr, hd⟩ := one_some (n := n) hlen hl hk (by omega) (c := c) ⟨by omega, h1⟩
    obtain ⟨d, o, e, hon⟩ := on_some (n := n) hlen hl hk (by omega) (0, 0, 0, 0) (0, 0, 0, 0) false 0 260 n c (by omega) h1 (by omega) (by omega)
    rw [f4_24_eq, f13_eq, f14_eq, right_ok hc (by omega) h1 hw, decide_eq_true (by omega)]
    simp only [Option.bind_some, bne_self_eq_false, cond_false, cond_true]
    obtain ⟨n', hn'⟩ : ∃ q, n = q + 1 := ⟨n - 1, by omega⟩
    cases he : r.2.2 with
    | true =>
      have h13 : f13_8 n n l false 0 c x (0, 0, 0, 0) (0, 0, 0, 0) = some (r.1, r.2.1, r.2.2, 0) := by
        conv => lhs; rw [hn']
        rw [f13_8_eq, ← hn', hr]
        simp only [Option.bind_some, he, cond_true]
      rw [h13, hr]
      simp only [Option.bind_some, he, cond_true, bne_self_eq_false, cond_false, beq_self_eq_true, Bool.and_self]
    | false =>
      rcases hd with hd | hd
      · rw [hd] at he; cases he
      cases hwt : r.1.2.2.1 != 0 with
      | true =>
        have h13 : f13_8 n n l false 0 c x (0, 0, 0, 0) (0, 0, 0, 0) = some (r.1, r.2.1, r.2.2, 0) := by
          conv => lhs; rw [hn']
          rw [f13_8_eq, ← hn', hr]
          simp only [Option.bind_some, he, hwt, cond_true, cond_false]
        rw [h13, hr]
        simp only [Option.bind_some, he, hwt, cond_true, bne_self_eq_false, cond_false, beq_self_eq_true, Bool.and_self]
      | false =>
        have hw2 : r.1.2.2.1 = 0 := by simpa using hwt
        rw [hon, hr]
        simp only [Option.bind_some, he, hwt, bne_self_eq_false, cond_false]
        rw [castN (by omega)]
        exact ih (i + 1) m r.1 (by omega) (by omega) hd.2 hw2 (by omega)
theorem recipe_back (hi : ∀ s ∈ l, i64 s.2.1 ∧ i64 s.2.2) (hk : x.1.2.size ≤ reachBytes) (hn : x.1.2.size + 10000 ≤ n) : f4 n l x = some true := by
  rw [f4_eq, awake_go (by omega)]
  simp only [Option.bind_some, Bool.not_true, cond_false]
  rcases told_both (n := n) (by omega) l hi with ⟨r, h0, _, _, h3⟩ | ⟨h1, _, hlen, hm, hf, h4, _⟩
  · rw [h3]
    simp only [Option.bind_some]
    rw [show (r.2 != 0) = true from by simp [h0], cond_true, beq_self_eq_true]
  · rw [h4]
    simp only [Option.bind_some, bne_self_eq_false, cond_false]
    rw [read_back (by omega) hlen hm hf]
    simp only [Option.bind_some]
    rw [h4]
    simp only [Option.bind_some, bne_self_eq_false, cond_false, beq_self_eq_true, Bool.not_true]
    exact steps_loop h1 hlen (fun s hs h9 => (may_skip (hm s hs) h9).2.2) hk (by omega) l.length 0 n (0, 0, 0, 0) (by omega) (Int.le_refl 0) (by show (0 : Int) ≤ _; omega) rfl (by omega)
end
end Go.Proofs.YtfmbgnbdolidjaaDoor
