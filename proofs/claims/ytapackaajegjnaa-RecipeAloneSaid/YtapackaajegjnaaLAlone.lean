/- A loader by itself; its gates; all its sleeps: the plain law RecipeAlone. -/
import Derived.Test.YtapackaajegjnaaLDoes2
import Derived.Test.YtapackaajegjnaaLCompact
import Derived.Test.YtapackaajegjnaaGt
namespace Go.Proofs.Ytapackaajegjnaa
open Go.Rf
/-! ### how long it sleeps -/
theorem wf_is {n : Nat} {t : Int} (h : 0 ≤ t ∧ t ≤ 4611686018427387904) : f38 n t = some true := by
  rw [f38_eq, decide_eq_true h.1, cond_true, decide_eq_true h.2]
theorem after_go {n : Nat} {t d : Int} (h : 0 ≤ t ∧ t ≤ 4611686018427387904) (hd : 0 ≤ d) (hd2 : d ≤ 9223372036854775807) : f23 n t d = some (if d > 4611686018427387904 - t then (4611686018427387904, false) else (t + d, true)) := by
  rw [f23_eq, wf_is h]
  simp only [Option.bind_some, Bool.not_true, cond_false]
  rw [decide_eq_false (by omega), cond_false, wI (n := 4611686018427387904 - t) (by omega) (by omega)]
  by_cases hc : d > 4611686018427387904 - t
  · rw [decide_eq_true hc, if_pos hc]; rfl
  · rw [decide_eq_false hc, if_neg hc, wI (n := t + d) (by omega) (by omega)]; rfl
theorem may_sleep {n : Nat} {s : Step} (h : f26 n s = some true) (h7 : s.1 = 7) : 0 ≤ s.2.1 ∧ s.2.1 ≤ 4611686018427387904 := by
  rw [f26_eq, h7] at h
  have e : ∀ k : Int, k ≠ 7 → ((7 : Int) == k) = false := fun k hk => beq_false_of_ne (fun x => hk x.symm)
  rw [e 1 (by decide), e 11 (by decide), e 12 (by decide), e 2 (by decide), e 5 (by decide), e 6 (by decide)] at h
  simp only [cond_false, beq_self_eq_true, cond_true] at h
  rw [f38_eq] at h
  by_cases hb : s.2.2 = 0
  · rw [hb] at h
    by_cases h1 : s.2.1 ≥ 0
    · rw [decide_eq_true h1] at h
      by_cases h2 : s.2.1 ≤ 4611686018427387904
      · exact ⟨h1, h2⟩
      · rw [decide_eq_false h2] at h
        cases h
    · rw [decide_eq_false h1] at h
      cases h
  · rw [beq_false_of_ne hb] at h
    cases h
/-! ### one step: for what it waits -/
theorem one_on {n : Nat} {l : List Step} {x : Around} (hl : ∀ s ∈ l, f26 n s = some true) (hk : x.1.2.size ≤ reachBytes) (hn : x.1.2.size + 4 ≤ n) {c : Cook} (hc : 0 ≤ c.1 ∧ c.1 ≤ (l.length : Int)) :
    ∃ r, f22 n l c x = some r ∧ (r.2.2 = true ∨ r.1.2.2 = c.2.2 ∨ r.1.2.2.1 = 1 ∨ (r.1.2.2.1 = 2 ∧ 0 ≤ r.1.2.2.2 ∧ r.1.2.2.2 ≤ 4611686018427387904)) := by
  rw [f22_eq]
  by_cases h0 : c.1 = (l.length : Int)
  · rw [h0, beq_self_eq_true]
    exact ⟨_, rfl, .inl rfl⟩
  · have h1 : 0 ≤ c.1 ∧ c.1 < (l.length : Int) := ⟨hc.1, by omega⟩
    have hm : l.getD c.1.toNat s0 ∈ l := by
      rw [List.getD_eq_getElem?_getD, List.getElem?_eq_getElem (by omega)]
      simp
    have hs := hl _ hm
    rw [beq_false_of_ne h0, decide_eq_true h1]
    generalize List.getD l c.1.toNat s0 = s at *
    obtain ⟨w, hw⟩ := work_some (n := n) (s := s) (a := c.2.1) hk hn
    obtain ⟨q, hq⟩ := skip_some n s.2.1 c.2.1 x
    rw [hw, hq, f35_eq, f35_eq, f35_eq]
    simp only [cond_false, cond_true, Option.bind_some]
    have key : ∀ {b : Bool} {t e : Option (Cook × (Int × Int × Int × Int) × Bool)}, (b = true → ∃ r, t = some r ∧ (r.2.2 = true ∨ r.1.2.2 = c.2.2 ∨ r.1.2.2.1 = 1 ∨ (r.1.2.2.1 = 2 ∧ 0 ≤ r.1.2.2.2 ∧ r.1.2.2.2 ≤ 4611686018427387904))) →
        (∃ r, e = some r ∧ (r.2.2 = true ∨ r.1.2.2 = c.2.2 ∨ r.1.2.2.1 = 1 ∨ (r.1.2.2.1 = 2 ∧ 0 ≤ r.1.2.2.2 ∧ r.1.2.2.2 ≤ 4611686018427387904))) →
        ∃ r, (bif b then t else e) = some r ∧ (r.2.2 = true ∨ r.1.2.2 = c.2.2 ∨ r.1.2.2.1 = 1 ∨ (r.1.2.2.1 = 2 ∧ 0 ≤ r.1.2.2.2 ∧ r.1.2.2.2 ≤ 4611686018427387904)) := by
      intro b t e h1 h2
      cases b
      · exact h2
      · exact h1 rfl
    exact key (fun _ => ⟨_, rfl, .inl rfl⟩) (key (fun _ => ⟨_, rfl, .inl rfl⟩) (key (fun _ => ⟨_, rfl, .inl rfl⟩) (key (fun _ => key (fun _ => ⟨_, rfl, .inl rfl⟩) ⟨_, rfl, .inr (.inl rfl)⟩)
      (key (fun _ => key (fun _ => ⟨_, rfl, .inr (.inl rfl)⟩) ⟨_, rfl, .inr (.inl rfl)⟩) (key (fun _ => ⟨_, rfl, .inr (.inr (.inl rfl))⟩) (key (fun h7 => ⟨_, rfl, .inr (.inr (.inr ⟨rfl, may_sleep hs (by simpa using h7)⟩))⟩) ⟨_, rfl, .inr (.inl rfl)⟩))))))
/-! ### to its end -/
section
variable {n : Nat} {l : List Step} {x : Around}
/-- What the document does behind the steps up to a wait. -/
noncomputable def behindOn (n : Nat) (l : List Step) (x : Around) (m : Nat) (slept : Int) (r : Cook × Out × Bool) : Option (Out × Int) :=
  bif r.2.2 then some (r.2.1, slept)
  else bif r.1.2.2.1 == (2 : Int) then
    bif decide (r.1.2.2.2 > IntKind.i64.wrap ((4611686018427387904 : Int) - slept)) then
     f19_4 n m l (4611686018427387904 : Int) x zc ((r.1.1, r.1.2.1, (0 : Int), (0 : Int)))
    else
     f19_4 n m l (IntKind.i64.wrap (slept + r.1.2.2.2)) x zc ((r.1.1, r.1.2.1, (0 : Int), (0 : Int)))
   else
    f19_4 n m l slept x zc ((r.1.1, r.1.2.1, (0 : Int), (0 : Int)))
theorem ref_alone (m : Nat) (slept : Int) (c : Cook) : f19_4 n (m + 1) l slept x zc c = (f18_2 n n l false c x zc zc).bind (behindOn n l x m slept) := by
  rw [f19_4_eq, f18_eq]
  rfl
theorem alone_both (hlen : l.length ≤ 256) (hl : ∀ s ∈ l, f26 n s = some true) (hk : x.1.2.size ≤ reachBytes) (h16 : 0 ≤ x.1.1 ∧ x.1.1 ≤ 65535) (hn : x.1.2.size + 600 ≤ n) :
    ∀ (k : Nat) (c : Cook) (slept : Int), k < n → 0 ≤ c.1 → c.1 ≤ (l.length : Int) → i64 c.2.1 → c.2.2 = (0, 0) → (l.length : Int) - c.1 ≤ k → 0 ≤ slept ∧ slept ≤ 4611686018427387904 →
    ∃ (o : Out) (s : Int), (∀ m, k < m → f7_12 n m l slept x zc c = some (o, s, 0)) ∧ (∀ q m, k < q → k ≤ m → (f18_2 n q l false c x zc zc).bind (behindOn n l x m slept) = some (o, s)) := by
  intro k
  induction k with
  | zero =>
    intro c slept _ h0 h1 hi _ h2 _
    obtain ⟨r, hr, hr2, _⟩ := one_both hlen hl hk h16 (by omega) ⟨h0, h1⟩ hi
    obtain ⟨r', hr', hc⟩ := one_some (n := n) hlen (fun s hs h9 => (may_skip (hl s hs) h9).2.2) hk (by omega) (c := c) ⟨h0, h1⟩
    rw [hr] at hr'
    cases hr'
    rcases hc with hc | hc
    · refine ⟨r.2.1, slept, fun m hm => ?_, fun q m hq hm => ?_⟩
      · obtain ⟨m, rfl⟩ : ∃ q, m = q + 1 := ⟨m - 1, by omega⟩
        rw [f7_12_eq, hr]
        simp only [Option.bind_some, hc, cond_true]
      · obtain ⟨q, rfl⟩ : ∃ p, q = p + 1 := ⟨q - 1, by omega⟩
        rw [f18_2_eq, hr2]
        simp only [Option.bind_some, hc, cond_true, behindOn]
    · omega
  | succ k ih =>
    intro c slept hkn h0 h1 hi hw h2 hs
    obtain ⟨r, hr, hr2, hri⟩ := one_both hlen hl hk h16 (by omega) ⟨h0, h1⟩ hi
    obtain ⟨r', hr', hc⟩ := one_some (n := n) hlen (fun s hs h9 => (may_skip (hl s hs) h9).2.2) hk (by omega) (c := c) ⟨h0, h1⟩
    rw [hr] at hr'
    cases hr'
    obtain ⟨r', hr', hon⟩ := one_on (n := n) hl hk (by omega) (c := c) ⟨h0, h1⟩
    rw [hr] at hr'
    cases hr'
    cases he : r.2.2 with
    | true =>
      refine ⟨r.2.1, slept, fun m hm => ?_, fun q m hq hm => ?_⟩
      · obtain ⟨m, rfl⟩ : ∃ q, m = q + 1 := ⟨m - 1, by omega⟩
        rw [f7_12_eq, hr]
        simp only [Option.bind_some, he, cond_true]
      · obtain ⟨q, rfl⟩ : ∃ p, q = p + 1 := ⟨q - 1, by omega⟩
        rw [f18_2_eq, hr2]
        simp only [Option.bind_some, he, cond_true, behindOn]
    | false =>
      obtain ⟨hc1, hc2⟩ : c.1 < r.1.1 ∧ r.1.1 ≤ (l.length : Int) := by
        rcases hc with hc | hc
        · rw [hc] at he; cases he
        · exact hc
      have next := fun slept' (hs' : 0 ≤ slept' ∧ slept' ≤ 4611686018427387904) => ih (r.1.1, r.1.2.1, 0, 0) slept' (by omega) (by show 0 ≤ r.1.1; omega) hc2 hri rfl (by show (l.length : Int) - r.1.1 ≤ k; omega) hs'
      rcases hon with hon | hon | hon | ⟨hon, ho1, ho2⟩
      · rw [hon] at he; cases he
      · -- it does not wait
        have hw2 : r.1.2.2 = (0, 0) := hon.trans hw
        have e1 : r.1 = (r.1.1, r.1.2.1, 0, 0) := by rw [← hw2]
        obtain ⟨o, s, p1, p2⟩ := next slept hs
        refine ⟨o, s, fun m hm => ?_, fun q m hq hm => ?_⟩
        · obtain ⟨m, rfl⟩ : ∃ q, m = q + 1 := ⟨m - 1, by omega⟩
          rw [f7_12_eq, hr]
          simp only [Option.bind_some, he, cond_false, hw2]
          exact p1 m (by omega)
        · obtain ⟨q, rfl⟩ : ∃ p, q = p + 1 := ⟨q - 1, by omega⟩
          rw [f18_2_eq, hr2]
          simp only [Option.bind_some, he, cond_false, hw2, bne_self_eq_false]
          rw [e1]
          exact p2 q m (by omega) (by omega)
      · obtain ⟨o, s, p1, p2⟩ := next slept hs
        refine ⟨o, s, fun m hm => ?_, fun q m hq hm => ?_⟩
        · obtain ⟨m, rfl⟩ : ∃ q, m = q + 1 := ⟨m - 1, by omega⟩
          rw [f7_12_eq, hr]
          simp only [Option.bind_some, he, cond_false, hon]
          exact p1 m (by omega)
        · obtain ⟨q, rfl⟩ : ∃ p, q = p + 1 := ⟨q - 1, by omega⟩
          obtain ⟨m, rfl⟩ : ∃ p, m = p + 1 := ⟨m - 1, by omega⟩
          rw [f18_2_eq, hr2]
          simp only [Option.bind_some, he, cond_false, hon]
          rw [show ((1 : Int) != 0) = true from rfl, cond_true, Option.bind_some]
          simp only [behindOn, cond_false, hon]
          rw [show ((1 : Int) == 2) = false from rfl, cond_false, ref_alone]
          exact p2 n m (by omega) (by omega)
      · -- it sleeps
        by_cases hgt : r.1.2.2.2 > 4611686018427387904 - slept
        · obtain ⟨o, s, p1, p2⟩ := next 4611686018427387904 ⟨by omega, by omega⟩
          refine ⟨o, s, fun m hm => ?_, fun q m hq hm => ?_⟩
          · obtain ⟨m, rfl⟩ : ∃ q, m = q + 1 := ⟨m - 1, by omega⟩
            rw [f7_12_eq, hr]
            simp only [Option.bind_some, he, cond_false, hon, beq_self_eq_true, cond_true]
            rw [after_go hs ho1 (by omega), if_pos hgt]
            exact p1 m (by omega)
          · obtain ⟨q, rfl⟩ : ∃ p, q = p + 1 := ⟨q - 1, by omega⟩
            obtain ⟨m, rfl⟩ : ∃ p, m = p + 1 := ⟨m - 1, by omega⟩
            rw [f18_2_eq, hr2]
            simp only [Option.bind_some, he, cond_false, hon]
            rw [show ((2 : Int) != 0) = true from rfl, cond_true, Option.bind_some]
            simp only [behindOn, cond_false, hon, beq_self_eq_true, cond_true]
            rw [wI (n := 4611686018427387904 - slept) (by omega) (by omega), decide_eq_true hgt, cond_true, ref_alone]
            exact p2 n m (by omega) (by omega)
        · obtain ⟨o, s, p1, p2⟩ := next (slept + r.1.2.2.2) ⟨by omega, by omega⟩
          refine ⟨o, s, fun m hm => ?_, fun q m hq hm => ?_⟩
          · obtain ⟨m, rfl⟩ : ∃ q, m = q + 1 := ⟨m - 1, by omega⟩
            rw [f7_12_eq, hr]
            simp only [Option.bind_some, he, cond_false, hon, beq_self_eq_true, cond_true]
            rw [after_go hs ho1 (by omega), if_neg hgt]
            exact p1 m (by omega)
          · obtain ⟨q, rfl⟩ : ∃ p, q = p + 1 := ⟨q - 1, by omega⟩
            obtain ⟨m, rfl⟩ : ∃ p, m = p + 1 := ⟨m - 1, by omega⟩
            rw [f18_2_eq, hr2]
            simp only [Option.bind_some, he, cond_false, hon]
            rw [show ((2 : Int) != 0) = true from rfl, cond_true, Option.bind_some]
            simp only [behindOn, cond_false, hon, beq_self_eq_true, cond_true]
            rw [wI (n := 4611686018427387904 - slept) (by omega) (by omega), decide_eq_false hgt, cond_false, wI (n := slept + r.1.2.2.2) (by omega) (by omega), ref_alone]
            exact p2 n m (by omega) (by omega)
end
/-! ### gates, and all sleeps -/
def gatesOf (l : List Step) : List Int := (l.filter fun s => s.1 == 6).map (·.2.1)
theorem gatesOf_cons (s : Step) (l : List Step) : gatesOf (s :: l) = if s.1 = 6 then s.2.1 :: gatesOf l else gatesOf l := by
  unfold gatesOf
  by_cases h : s.1 = 6 <;> simp [h]
theorem gates_loop (n : Nat) {l : List Step} (hl : l.length * 24 ≤ 140737488351232) : ∀ (k i m : Nat) (acc : List Int), i + k = l.length → k < m → acc.length ≤ i →
    f20_6 n m l l.length i acc = (f33o n (acc ++ gatesOf (l.drop i))).bind fun r1 => (f34o n r1.snd.1).bind fun r2 => some r2.snd.fst := by
  intro k
  induction k with
  | zero =>
    intro i m acc hi hm ha
    obtain ⟨m, rfl⟩ : ∃ q, m = q + 1 := ⟨m - 1, by omega⟩
    rw [f20_6_eq, decide_eq_false (show ¬ (i : Int) < (l.length : Int) by omega), List.drop_of_length_le (by omega), show gatesOf [] = [] from rfl, List.append_nil]
    rfl
  | succ k ih =>
    intro i m acc hi hm ha
    obtain ⟨m, rfl⟩ : ∃ q, m = q + 1 := ⟨m - 1, by omega⟩
    have hi' : i < l.length := by omega
    rw [f20_6_eq, decide_eq_true (show (i : Int) < (l.length : Int) by omega), decide_eq_true (show (0 : Int) ≤ (i : Int) ∧ (i : Int) < (l.length : Int) by omega), wI (n := (i : Int) + 1) (by omega) (by omega), getD_drop (d := s0) hi', gatesOf_cons,
      decide_eq_true (by simp only [List.length_cons, List.length_nil]; show (acc.length + 1) * 8 ≤ 140737488355328; omega), Int.toNat_natCast]
    simp only [cond_true]
    have h1 := fun acc ha => ih (i + 1) m acc (by omega) (by omega) ha
    rw [show ((i + 1 : Nat) : Int) = (i : Int) + 1 by omega] at h1
    by_cases h6 : (l.getD i s0).1 = 6
    · rw [h6, beq_self_eq_true, cond_true, if_pos rfl, h1 _ (by simp; omega), List.append_assoc]
      rfl
    · rw [beq_false_of_ne h6, cond_false, if_neg h6, h1 _ (by omega)]
theorem gates_go {n : Nat} {l : List Step} (hl : l.length * 24 ≤ 140737488351232) (hn : l.length < n) : f20 n l = some (Lib.compact ((gatesOf l).mergeSort fun x y => decide (x ≤ y))) := by
  have hg : (gatesOf l).length ≤ l.length := by
    unfold gatesOf
    rw [List.length_map]
    exact List.length_filter_le _ _
  have h := gates_loop n hl l.length 0 n [] (by omega) hn (by simp)
  rw [show ((0 : Nat) : Int) = 0 from rfl, List.drop_zero, List.nil_append] at h
  rw [f20_eq, h, f33o, sortF, if_pos (by omega)]
  rfl
/-- All sleeps, as the program adds them up. -/
def lng : Int → List Step → Int × Bool
  | all, [] => (all, true)
  | all, s :: r => if s.1 = 7 then (if (if 0 > s.2.1 then 0 else s.2.1) > 4611686018427387904 - all then (4611686018427387904, false) else lng (all + if 0 > s.2.1 then 0 else s.2.1) r) else lng all r
theorem longest_loop (n : Nat) {l : List Step} (hl : l.length * 24 ≤ 140737488351232) (hs : ∀ s ∈ l, s.2.1 ≤ 9223372036854775807) : ∀ (k i m : Nat) (all : Int), i + k = l.length → k < m → 0 ≤ all ∧ all ≤ 4611686018427387904 → f21_6 n m all l l.length i = some (lng all (l.drop i)) := by
  intro k
  induction k with
  | zero =>
    intro i m all hi hm ha
    obtain ⟨m, rfl⟩ : ∃ q, m = q + 1 := ⟨m - 1, by omega⟩
    rw [f21_6_eq, decide_eq_false (show ¬ (i : Int) < (l.length : Int) by omega), List.drop_of_length_le (by omega)]
    rfl
  | succ k ih =>
    intro i m all hi hm ha
    obtain ⟨m, rfl⟩ : ∃ q, m = q + 1 := ⟨m - 1, by omega⟩
    have hi' : i < l.length := by omega
    have hmem : l.getD i s0 ∈ l := by
      rw [List.getD_eq_getElem?_getD, List.getElem?_eq_getElem hi']
      simp
    have hb := hs _ hmem
    have h1 := fun all ha => ih (i + 1) m all (by omega) (by omega) ha
    rw [show ((i + 1 : Nat) : Int) = (i : Int) + 1 by omega] at h1
    rw [f21_6_eq, decide_eq_true (show (i : Int) < (l.length : Int) by omega), decide_eq_true (show (0 : Int) ≤ (i : Int) ∧ (i : Int) < (l.length : Int) by omega), wI (n := (i : Int) + 1) (by omega) (by omega), getD_drop (d := s0) hi', Int.toNat_natCast]
    simp only [cond_true, lng]
    by_cases h7 : (l.getD i s0).1 = 7
    · rw [h7, bne_self_eq_false, cond_false, if_pos rfl]
      have hd : 0 ≤ (if (0 : Int) > (l.getD i s0).2.1 then 0 else (l.getD i s0).2.1) := by split <;> omega
      have hd2 : (if (0 : Int) > (l.getD i s0).2.1 then 0 else (l.getD i s0).2.1) ≤ 9223372036854775807 := by split <;> omega
      rw [after_go ha hd hd2]
      by_cases hgt : (if (0 : Int) > (l.getD i s0).2.1 then 0 else (l.getD i s0).2.1) > 4611686018427387904 - all
      · rw [if_pos hgt, if_pos hgt]; rfl
      · rw [if_neg hgt, if_neg hgt]
        exact h1 _ ⟨by omega, by omega⟩
    · rw [show ((l.getD i s0).1 != 7) = true from bne_iff_ne.2 h7, cond_true, if_neg h7]
      exact h1 _ ha
/-- All sleeps, as the law adds them up. -/
def lw : Int → Bool → List Step → Int × Bool
  | all, fits, [] => (all, fits)
  | all, fits, s :: r => if s.1 = 7 ∧ s.2.1 > 0 ∧ fits = true then (if s.2.1 > 4611686018427387904 - all then lw 4611686018427387904 false r else lw (all + s.2.1) fits r) else lw all fits r
theorem lw_over : ∀ l : List Step, lw 4611686018427387904 false l = (4611686018427387904, false)
  | [] => rfl
  | s :: r => by
    unfold lw
    rw [if_neg (by simp), lw_over r]
theorem lw_lng : ∀ (l : List Step) (all : Int), all ≤ 4611686018427387904 → lw all true l = lng all l
  | [], _, _ => rfl
  | s :: r, all, ha => by
    unfold lw lng
    by_cases h7 : s.1 = 7
    · rw [if_pos h7]
      by_cases h0 : s.2.1 > 0
      · rw [if_pos ⟨h7, h0, rfl⟩, if_neg (show ¬ (0 : Int) > s.2.1 by omega)]
        by_cases hg : s.2.1 > 4611686018427387904 - all
        · rw [if_pos hg, if_pos hg, lw_over]
        · rw [if_neg hg, if_neg hg, lw_lng r _ (by omega)]
      · rw [if_neg (fun h => h0 h.2.1)]
        have e : (if (0 : Int) > s.2.1 then 0 else s.2.1) = 0 := by split <;> omega
        rw [e, if_neg (by omega), Int.add_zero, lw_lng r _ ha]
    · rw [if_neg h7, if_neg (fun h => h7 h.1), lw_lng r _ ha]
/-- The gates, as the law keeps them. -/
def gm (mp : List (Int × Bool)) : List Step → List (Int × Bool)
  | [] => mp
  | s :: r => gm (if s.1 = 6 then mput (eqD (.int .i64)) s.2.1 true mp else mp) r
theorem eqI (a b : Int) : eqD (.int .i64) a b = (a == b) := rfl
theorem keys_put (k : Int) (v : Bool) : ∀ l : List (Int × Bool), (mput (eqD (.int .i64)) k v l).map (·.1) = if k ∈ l.map (·.1) then l.map (·.1) else l.map (·.1) ++ [k]
  | [] => rfl
  | p :: l => by
    have ih := keys_put k v l
    by_cases h : k = p.1
    · have e : eqD (.int .i64) k p.1 = true := by rw [eqI, h, beq_self_eq_true]
      simp only [mput, e, List.map_cons]
      rw [if_pos (by rw [h]; exact List.mem_cons_self), h]
    · have e : eqD (.int .i64) k p.1 = false := by rw [eqI]; exact beq_false_of_ne h
      simp only [mput, e, List.map_cons, ih]
      by_cases h2 : k ∈ l.map (·.1)
      · rw [if_pos h2, if_pos (List.mem_cons_of_mem _ h2)]
      · rw [if_neg h2, if_neg (by intro h3; rcases List.mem_cons.1 h3 with h3 | h3; exact h h3; exact h2 h3)]
        rfl
theorem get_put (k k' : Int) (v : Bool) : ∀ l : List (Int × Bool), mget (eqD (.int .i64)) k' (mput (eqD (.int .i64)) k v l) = if k' = k then some v else mget (eqD (.int .i64)) k' l
  | [] => by
    by_cases h : k' = k
    · subst h
      simp only [mput, mget, eqI, beq_self_eq_true, if_true]
    · have e : eqD (.int .i64) k' k = false := by rw [eqI]; exact beq_false_of_ne h
      simp only [mput, mget, e, if_neg h]
  | p :: l => by
    have ih := get_put k k' v l
    by_cases h : k = p.1
    · have e : eqD (.int .i64) k p.1 = true := by rw [eqI, h, beq_self_eq_true]
      simp only [mput, e, mget]
      by_cases h2 : k' = k
      · have e2 : eqD (.int .i64) k' k = true := by rw [eqI, h2, beq_self_eq_true]
        simp only [e2, if_pos h2]
      · have e2 : eqD (.int .i64) k' k = false := by rw [eqI]; exact beq_false_of_ne h2
        have e3 : eqD (.int .i64) k' p.1 = false := by rw [← h]; exact e2
        simp only [e2, e3, if_neg h2]
    · have e : eqD (.int .i64) k p.1 = false := by rw [eqI]; exact beq_false_of_ne h
      simp only [mput, e, mget, ih]
      by_cases h2 : k' = p.1
      · have e2 : eqD (.int .i64) k' p.1 = true := by rw [eqI, h2, beq_self_eq_true]
        simp only [e2]
        rw [if_neg (fun h3 => h (h3.symm.trans h2))]
      · have e2 : eqD (.int .i64) k' p.1 = false := by rw [eqI]; exact beq_false_of_ne h2
        simp only [e2]
theorem gm_keys : ∀ (l : List Step) (mp : List (Int × Bool)), (mp.map (·.1)).Nodup → ((gm mp l).map (·.1)).Nodup ∧ ∀ x, x ∈ (gm mp l).map (·.1) ↔ x ∈ mp.map (·.1) ∨ x ∈ gatesOf l
  | [], mp, h => ⟨h, fun x => by simp [gm, gatesOf]⟩
  | s :: r, mp, h => by
    unfold gm
    rw [gatesOf_cons]
    by_cases h6 : s.1 = 6
    · rw [if_pos h6, if_pos h6]
      have hk := keys_put s.2.1 true mp
      obtain ⟨h1, h2⟩ := gm_keys r (mput (eqD (.int .i64)) s.2.1 true mp) (by
        rw [hk]
        split
        · exact h
        · rename_i hn
          rw [List.nodup_append]
          refine ⟨h, by simp, fun a ha b hb => ?_⟩
          simp only [List.mem_singleton] at hb
          subst hb
          exact fun e => hn (e ▸ ha))
      refine ⟨h1, fun x => (h2 x).trans ?_⟩
      rw [hk, List.mem_cons]
      split
      · rename_i hin
        constructor
        · rintro (h | h)
          · exact .inl h
          · exact .inr (.inr h)
        · rintro (h | h | h)
          · exact .inl h
          · exact .inl (h ▸ hin)
          · exact .inr h
      · rw [List.mem_append, List.mem_singleton]
        constructor
        · rintro ((h | h) | h)
          · exact .inl h
          · exact .inr (.inl h)
          · exact .inr (.inr h)
        · rintro (h | h | h)
          · exact .inl (.inl h)
          · exact .inl (.inr h)
          · exact .inr h
    · rw [if_neg h6, if_neg h6]
      exact gm_keys r mp h
theorem gm_get : ∀ (l : List Step) (mp : List (Int × Bool)) (x : Int), mget (eqD (.int .i64)) x mp = some true ∨ x ∈ gatesOf l → mget (eqD (.int .i64)) x (gm mp l) = some true
  | [], mp, x, h => by
    rcases h with h | h
    · exact h
    · cases h
  | s :: r, mp, x, h => by
    unfold gm
    rw [gatesOf_cons] at h
    by_cases h6 : s.1 = 6
    · rw [if_pos h6] at h
      rw [if_pos h6]
      refine gm_get r _ x ?_
      rw [get_put]
      by_cases hx : x = s.2.1
      · exact .inl (if_pos hx)
      · rw [if_neg hx]
        rcases h with h | h
        · exact .inl h
        · rcases List.mem_cons.1 h with h | h
          · exact (hx h).elim
          · exact .inr h
    · rw [if_neg h6] at h
      rw [if_neg h6]
      exact gm_get r mp x h
/-- What the law asks at its end. -/
noncomputable def lastly (n : Nat) (l : List Step) (all : Int) (fits : Bool) (had : List Int) (mp : List (Int × Bool)) : Option Bool :=
  (f21 n l).bind fun r1 =>
   bif (↑had.length : Int) == ↑mp.length then
    bif r1.fst == all then
     some (r1.snd == fits)
    else
     some false
   else
    some false
theorem had_loop (n : Nat) (l : List Step) (all : Int) (fits : Bool) {had : List Int} {mp : List (Int × Bool)} (hlen : had.length ≤ 4611686018427387904) (hp : had.Pairwise (· < ·)) (hm : ∀ x ∈ had, mget (eqD (.int .i64)) x mp = some true) :
    ∀ (k i m : Nat), i + k = had.length → k < m → f5_48 n m l all fits had had had.length i mp = lastly n l all fits had mp := by
  intro k
  induction k with
  | zero =>
    intro i m hi hm'
    obtain ⟨m, rfl⟩ : ∃ q, m = q + 1 := ⟨m - 1, by omega⟩
    rw [f5_48_eq, decide_eq_false (show ¬ (i : Int) < (had.length : Int) by omega)]
    rfl
  | succ k ih =>
    intro i m hi hm'
    obtain ⟨m, rfl⟩ : ∃ q, m = q + 1 := ⟨m - 1, by omega⟩
    have hi' : i < had.length := by omega
    have h1 := ih (i + 1) m (by omega) (by omega)
    rw [show ((i + 1 : Nat) : Int) = (i : Int) + 1 by omega] at h1
    have hmem : had.getD i 0 ∈ had := getD_mem hi'
    rw [f5_48_eq, decide_eq_true (show (i : Int) < (had.length : Int) by omega), decide_eq_true (show (0 : Int) ≤ (i : Int) ∧ (i : Int) < (had.length : Int) by omega), wI (n := (i : Int) + 1) (by omega) (by omega), Int.toNat_natCast, hm _ hmem]
    simp only [cond_true, Option.getD_some, Bool.not_true, cond_false]
    by_cases h0 : i = 0
    · subst h0
      rw [decide_eq_false (by omega), cond_false]
      exact h1
    · rw [decide_eq_true (show (i : Int) > 0 by omega), cond_true, wI (n := (i : Int) - 1) (by omega) (by omega), decide_eq_true (show (0 : Int) ≤ (i : Int) - 1 ∧ (i : Int) - 1 < (had.length : Int) by omega), cond_true,
        show ((i : Int) - 1).toNat = i - 1 by omega]
      have hlt : had.getD (i - 1) 0 < had.getD i 0 := by
        have h2 := (List.pairwise_iff_getElem.1 hp) (i - 1) i (by omega) hi' (by omega)
        rw [List.getD_eq_getElem?_getD, List.getElem?_eq_getElem (show i - 1 < had.length by omega), List.getD_eq_getElem?_getD, List.getElem?_eq_getElem hi']
        exact h2
      rw [decide_eq_false (by omega), cond_false]
      exact h1
theorem law_loop2 (n : Nat) {l : List Step} (hl : l.length * 24 ≤ 140737488351232) (hs : ∀ s ∈ l, s.2.1 ≤ 9223372036854775807) {had : List Int} (hh : f20 n l = some had) : ∀ (k i m : Nat) (all : Int) (fits : Bool) (mp : List (Int × Bool)), i + k = l.length → k < m → 0 ≤ all ∧ all ≤ 4611686018427387904 →
    f5_26 n m l all fits l l.length i mp = f5_48 n (m - k - 1) l (lw all fits (l.drop i)).1 (lw all fits (l.drop i)).2 had had had.length 0 (gm mp (l.drop i)) := by
  intro k
  induction k with
  | zero =>
    intro i m all fits mp hi hm ha
    obtain ⟨m, rfl⟩ : ∃ q, m = q + 1 := ⟨m - 1, by omega⟩
    rw [f5_26_eq, decide_eq_false (show ¬ (i : Int) < (l.length : Int) by omega), List.drop_of_length_le (by omega), cond_false, hh]
    rfl
  | succ k ih =>
    intro i m all fits mp hi hm ha
    obtain ⟨m, rfl⟩ : ∃ q, m = q + 1 := ⟨m - 1, by omega⟩
    have hi' : i < l.length := by omega
    have hmem : l.getD i s0 ∈ l := by
      rw [List.getD_eq_getElem?_getD, List.getElem?_eq_getElem hi']
      simp
    have hb := hs _ hmem
    have h1 := fun all fits mp ha => ih (i + 1) m all fits mp (by omega) (by omega) ha
    rw [show ((i + 1 : Nat) : Int) = (i : Int) + 1 by omega, show m - k - 1 = m + 1 - (k + 1) - 1 by omega] at h1
    rw [f5_26_eq, decide_eq_true (show (i : Int) < (l.length : Int) by omega), decide_eq_true (show (0 : Int) ≤ (i : Int) ∧ (i : Int) < (l.length : Int) by omega), wI (n := (i : Int) + 1) (by omega) (by omega), getD_drop (d := s0) hi', Int.toNat_natCast]
    simp only [cond_true, lw, gm]
    by_cases h6 : (l.getD i s0).1 = 6
    · rw [h6, beq_self_eq_true, cond_true, show ((6 : Int) == 7) = false from rfl, cond_false, if_neg (by rintro ⟨h, _⟩; omega), if_pos rfl]
      exact h1 _ _ _ ha
    · rw [beq_false_of_ne h6, cond_false, if_neg h6]
      by_cases h7 : (l.getD i s0).1 = 7
      · rw [h7, beq_self_eq_true, cond_true]
        by_cases h0 : (l.getD i s0).2.1 > 0
        · rw [decide_eq_true h0, cond_true]
          cases fits with
          | true =>
            rw [cond_true, if_pos ⟨rfl, h0, rfl⟩, wI (n := 4611686018427387904 - all) (by omega) (by omega)]
            by_cases hg : (l.getD i s0).2.1 > 4611686018427387904 - all
            · rw [decide_eq_true hg, cond_true, if_pos hg]
              exact h1 _ _ _ ⟨by omega, by omega⟩
            · rw [decide_eq_false hg, cond_false, if_neg hg, wI (n := all + (l.getD i s0).2.1) (by omega) (by omega)]
              exact h1 _ _ _ ⟨by omega, by omega⟩
          | false =>
            rw [cond_false, if_neg (by rintro ⟨_, _, h⟩; cases h)]
            exact h1 _ _ _ ha
        · rw [decide_eq_false h0, cond_false, if_neg (fun h => h0 h.2.1)]
          exact h1 _ _ _ ha
      · rw [beq_false_of_ne h7, cond_false, if_neg (fun h => h7 h.1)]
        exact h1 _ _ _ ha
theorem gates_law {n : Nat} {l : List Step} (hl : l.length * 24 ≤ 140737488351232) (hs : ∀ s ∈ l, s.2.1 ≤ 9223372036854775807) (hn : 2 * l.length + 10 ≤ n) : f5_26 n n l 0 true l l.length 0 [] = some true := by
  obtain ⟨hp, hmem⟩ := each_once (gatesOf l)
  have hh := gates_go hl (show l.length < n by omega)
  have hle : (Lib.compact ((gatesOf l).mergeSort fun x y => decide (x ≤ y))).length ≤ (gatesOf l).length := by
    have h1 := Lib.compact_length_le ((gatesOf l).mergeSort fun x y => decide (x ≤ y))
    rw [List.length_mergeSort] at h1
    exact h1
  generalize Lib.compact ((gatesOf l).mergeSort fun x y => decide (x ≤ y)) = had at *
  have hg : (gatesOf l).length ≤ l.length := by
    unfold gatesOf
    rw [List.length_map]
    exact List.length_filter_le _ _
  obtain ⟨hk1, hk2⟩ := gm_keys l [] (by simp)
  have hnd : had.Nodup := hp.imp fun h e => by omega
  have hlen : had.length = ((gm [] l).map (·.1)).length := same_len hnd hk1 fun x => by
    rw [hmem, hk2]
    simp
  have h := law_loop2 n hl hs hh l.length 0 n 0 true [] (by omega) (by omega) ⟨by omega, by omega⟩
  rw [show ((0 : Nat) : Int) = 0 from rfl, List.drop_zero] at h
  rw [h]
  have h2 := had_loop n l (lw 0 true l).1 (lw 0 true l).2 (mp := gm [] l) (by omega) hp (fun x hx => gm_get l [] x (.inr ((hmem x).1 hx))) had.length 0 (n - l.length - 1) (by omega) (by omega)
  rw [show ((0 : Nat) : Int) = 0 from rfl] at h2
  rw [h2, lastly]
  have h3 := longest_loop n hl hs l.length 0 n 0 (by omega) (by omega) ⟨by omega, by omega⟩
  rw [show ((0 : Nat) : Int) = 0 from rfl, List.drop_zero] at h3
  rw [f21_eq, h3, lw_lng l 0 (by omega)]
  simp only [Option.bind_some]
  rw [hlen, List.length_map, beq_self_eq_true, cond_true, beq_self_eq_true, cond_true, beq_self_eq_true]
/-- The law, over data. -/
theorem recipe_alone {n : Nat} {l : List Step} {x : Around} (hl : l.length * 24 ≤ 140737488351232) (hs : ∀ s ∈ l, s.2.1 ≤ 9223372036854775807) (hk : x.1.2.size ≤ reachBytes) (h16 : 0 ≤ x.1.1 ∧ x.1.1 ≤ 65535) (hn : 2 * l.length + x.1.2.size + 700 ≤ n) : f5 n l x = some true := by
  have haw : f6 n = some true := by
    obtain ⟨q, rfl⟩ : ∃ q, n = q + 12 := ⟨n - 12, by omega⟩
    exact awake_recipe q
  have hg : f10 n l = some l := by rw [f10_eq]; exact given_all n hl (by omega)
  obtain ⟨q, hq, hmay⟩ := check_go (n := n) (by omega) l
  have hq9 : f9 n l = some q := (check_same (by omega) l).symm.trans hq
  have hend := gates_law (n := n) hl hs (by omega)
  rw [f5_eq, haw, hg, f7_eq, hq]
  simp only [Option.bind_some, Bool.not_true, cond_false, hq9, f16_eq]
  by_cases hz : q.2 = 0
  · obtain ⟨hlen, hall⟩ := hmay hz
    rw [hz, bne_self_eq_false, cond_false]
    obtain ⟨o, s, p1, p2⟩ := alone_both (n := n) (x := x) hlen hall hk h16 (by omega) l.length zc 0 (by omega) (by show (0 : Int) ≤ 0; omega) (by show (0 : Int) ≤ _; omega) (by show i64 0; constructor <;> omega) rfl (by show (l.length : Int) - 0 ≤ _; omega) ⟨by omega, by omega⟩
    have e1 := p1 n (by omega)
    have e2 : f19 n l x = some (o, s) := by
      obtain ⟨m, rfl⟩ : ∃ q, n = q + 1 := ⟨n - 1, by omega⟩
      rw [f19_eq]
      exact (ref_alone (n := m + 1) m 0 zc).trans (p2 (m + 1) m (by omega) (by omega))
    rw [show f7_12 n n l 0 x (0, 0, 0, 0) (0, 0, 0, 0) = some (o, s, 0) from e1, e2]
    simp only [Option.bind_some, f17_eq, beq_self_eq_true, Bool.and_self, Bool.not_true, cond_false, bne_self_eq_false]
    exact hend
  · rw [show (q.2 != 0) = true from bne_iff_ne.2 hz]
    simp only [cond_true, Option.bind_some, beq_self_eq_true, Bool.and_self, Bool.not_true, cond_false, bne_self_eq_false]
    exact hend
end Go.Proofs.Ytapackaajegjnaa
