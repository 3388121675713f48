/- A load without gates and sleeps ends: the plain law. -/
import Derived.Test.YtbmdklndjlmogaaLLoad
import Derived.Test.YtbmdklndjlmogaaGd
namespace Go.Proofs.Ytbmdklndjlmogaa
open Go.Rf
theorem awake_load (n : Nat) : f7 (n + 12) = some true := by kernel_rfl
/-! ### the results -/
abbrev r0 : Result := (0, 0, 0, 0, 0)
theorem getD_in {α : Type} {l : List α} {i : Nat} {d : α} (h : i < l.length) : l.getD i d ∈ l := by
  rw [List.getD_eq_getElem?_getD, List.getElem?_eq_getElem h]
  simp
theorem outs_eq (a b : Outcome) : (a.1 == b.1 && (a.2.1 == b.2.1 && (a.2.2.1 == b.2.2.1 && a.2.2.2 == b.2.2.2))) = decide (a = b) := by
  obtain ⟨a1, a2, a3, a4⟩ := a
  obtain ⟨b1, b2, b3, b4⟩ := b
  simp only [Prod.mk.injEq]
  by_cases h1 : a1 = b1 <;> by_cases h2 : a2 = b2 <;> by_cases h3 : a3 = b3 <;> by_cases h4 : a4 = b4 <;> simp [h1, h2, h3, h4]
theorem last_loop (n : Nat) {rs : List Result} (hl : rs.length ≤ 1024) {pk : Bool} (hp : pk = true → ∃ o, ∀ r ∈ rs, r.2 = o) : ∀ (k i m : Nat), i + k = rs.length → k < m → f3_70 n m pk rs.length i rs = some true := by
  intro k
  induction k with
  | zero =>
    intro i m hi hm
    obtain ⟨m, rfl⟩ : ∃ q, m = q + 1 := ⟨m - 1, by omega⟩
    rw [f3_70_eq, decide_eq_false (show ¬ (i : Int) < (rs.length : Int) by omega)]
    rfl
  | succ k ih =>
    intro i m hi hm
    obtain ⟨m, rfl⟩ : ∃ q, m = q + 1 := ⟨m - 1, by omega⟩
    have hi' : i < rs.length := by omega
    have h1 := ih (i + 1) m (by omega) (by omega)
    rw [show ((i + 1 : Nat) : Int) = (i : Int) + 1 by omega] at h1
    rw [f3_70_eq, decide_eq_true (show (i : Int) < (rs.length : Int) by omega), decide_eq_true (show (0 : Int) ≤ (i : Int) ∧ (i : Int) < (rs.length : Int) by omega), decide_eq_true (show (0 : Int) ≤ (0 : Int) ∧ (0 : Int) < (rs.length : Int) by omega),
      wI (n := (i : Int) + 1) (by omega) (by omega), h1]
    cases pk with
    | false => rfl
    | true =>
      obtain ⟨o, ho⟩ := hp rfl
      have h2 : (rs.getD i r0).2 = o := ho _ (getD_in hi')
      have h3 : (rs.getD 0 r0).2 = o := ho _ (getD_in (by omega))
      have h4 := outs_eq (rs.getD i r0).2 (rs.getD 0 r0).2
      rw [h2, h3, decide_eq_true rfl] at h4
      simp only [cond_true, Int.toNat_natCast, h2, h3, h4, Bool.not_true, cond_false]
/-- What the results are at the end. -/
def Final (l : List Item) (rs : List Result) : Prop := rs.map (·.1) = l.map (·.1) ∧ ((∀ r ∈ rs, r.2.2.1 ≠ 2) ∨ ∃ o, ∀ r ∈ rs, r.2 = o)
theorem runs_loop (n : Nat) {l : List Item} (hl : l.length ≤ 1024) {rs : List Result} (hf : Final l rs) : ∀ (k i m : Nat) (pk : Bool), i + k = rs.length → k + 1025 < m → (pk = true → ¬ ∀ r ∈ rs, r.2.2.1 ≠ 2) → f3_56 n m l pk rs.length i rs = some true := by
  obtain ⟨hm1, hm2⟩ := hf
  have hlen : rs.length = l.length := by simpa using congrArg List.length hm1
  intro k
  induction k with
  | zero =>
    intro i m pk hi hm hp
    obtain ⟨m, rfl⟩ : ∃ q, m = q + 1 := ⟨m - 1, by omega⟩
    rw [f3_56_eq, decide_eq_false (show ¬ (i : Int) < (rs.length : Int) by omega)]
    refine last_loop n (by omega) (fun h => ?_) rs.length 0 m (by omega) (by omega)
    rcases hm2 with h2 | h2
    · exact (hp h h2).elim
    · exact h2
  | succ k ih =>
    intro i m pk hi hm hp
    obtain ⟨m, rfl⟩ : ∃ q, m = q + 1 := ⟨m - 1, by omega⟩
    have hi' : i < rs.length := by omega
    have he : (rs.getD i r0).1 = (l.getD i i0).1 := by
      have h := congrArg (fun z => z[i]?) hm1
      simp only [List.getElem?_map] at h
      rw [List.getElem?_eq_getElem hi', List.getElem?_eq_getElem (by omega)] at h
      rw [List.getD_eq_getElem?_getD, List.getD_eq_getElem?_getD, List.getElem?_eq_getElem hi', List.getElem?_eq_getElem (by omega)]
      simpa using h
    have h1 : ∀ pk, (pk = true → ¬ ∀ r ∈ rs, r.2.2.1 ≠ 2) → f3_56 n m l pk rs.length ((i : Int) + 1) rs = some true := by
      intro pk hp
      have := ih (i + 1) m pk (by omega) (by omega) hp
      rwa [show ((i + 1 : Nat) : Int) = (i : Int) + 1 by omega] at this
    rw [f3_56_eq, decide_eq_true (show (i : Int) < (rs.length : Int) by omega), decide_eq_true (show (0 : Int) ≤ (i : Int) ∧ (i : Int) < (rs.length : Int) by omega), decide_eq_true (show (0 : Int) ≤ (i : Int) ∧ (i : Int) < (l.length : Int) by omega), Int.toNat_natCast, he,
      bne_self_eq_false, wI (n := (i : Int) + 1) (by omega) (by omega)]
    simp only [cond_true, cond_false]
    cases pk with
    | true => exact h1 true hp
    | false =>
      refine h1 _ fun h hall => ?_
      exact hall _ (getD_in hi') (by simpa using h)
/-! ### the steps -/
/-- How many steps recipes have, with one more for each. -/
def most (l : List Item) : Nat := (l.map fun x => x.2.2.2.length + 1).sum
theorem most_le : ∀ {l : List Item}, (∀ x ∈ l, x.2.2.2.length ≤ 256) → most l ≤ 257 * l.length
  | [], _ => by simp [most]
  | x :: l, h => by
    have h1 := most_le (l := l) fun y hy => h y (List.mem_cons_of_mem _ hy)
    have h2 := h x (by simp)
    unfold most at h1 ⊢
    simp only [List.map_cons, List.sum_cons, List.length_cons]
    omega
/-- How a load stands that goes on. -/
structure Goes (l : List Item) (i : Nat) (ck : Cook) (rs : List Result) : Prop where
  lt : i < l.length
  lo : 0 ≤ ck.1
  hi : ck.1 ≤ ((l.getD i i0).2.2.2.length : Int)
  wt : ck.2.2.1 = 0
  runs : rs.map (·.1) = (l.take i).map (·.1)
  calm : ∀ r ∈ rs, r.2.2.1 ≠ 2
theorem steps_loop {n : Nat} (hn : 4000 ≤ n) {l : List Item} (hl : l.length ≤ 1024) (hg : ∀ x ∈ l, Good n x) (hng : ∀ x ∈ l, NG x.2.2.2) (num on tm : Int) (b2a : List Bool) (b2ba : List Unit) (m3 : List (Int × Int)) (b4a b4ba : Int) (m5 : List (Int × Int)) (m6 : List (Int × List Int)) (l3 : List Int) :
    ∀ (M m : Nat) (x most' : Int) (a : Int) (bg : Bool) (ck : Cook) (ov : Bool) (rs : List Result),
      (ov = true → Final l rs) →
      (ov = false → ∃ i : Nat, a = i ∧ Goes l i ck rs ∧ ((l.getD i i0).2.2.2.length : Int) - ck.1 + 1 + most (l.drop (i + 1)) ≤ M ∧ x + (((l.getD i i0).2.2.2.length : Int) - ck.1 + 1 + most (l.drop (i + 1))) ≤ most') → M + 3000 < m → 0 ≤ x → most' ≤ 1000000 →
      f3_1000036 n m l most' x num a bg ck 0 on tm ov l rs m3 b2a b2ba m5 m6 b4a b4ba l3 [] = some true := by
  intro M
  induction M with
  | zero =>
    intro m x most' a bg ck ov rs h1 h2 hm hx hmost
    obtain ⟨m, rfl⟩ : ∃ q, m = q + 1 := ⟨m - 1, by omega⟩
    cases ov with
    | false =>
      obtain ⟨i, _, hgo, h3, _⟩ := h2 rfl
      have := hgo.hi
      omega
    | true =>
      have hf := h1 rfl
      have hlen : rs.length = l.length := by simpa using congrArg List.length hf.1
      have hclone : f33o n rs = some ((), rs, ()) := by
        rw [f33o_eq, decide_eq_true (by rw [maxB_eq]; omega), cond_true, List.nil_append]
        cases rs with
        | nil => exact both_self _
        | cons _ _ => rfl
      rw [f3_1000036_eq, f11o_eq]
      simp only [Option.bind_some, Bool.not_true, cond_false]
      rw [f13o_eq, hclone]
      simp only [Option.bind_some, Bool.not_true, cond_false, hlen, bne_self_eq_false]
      rw [← hlen]
      exact runs_loop n hl hf rs.length 0 m false (by omega) (by omega) (fun h => by cases h)
  | succ M ih =>
    intro m x most' a bg ck ov rs h1 h2 hm hx hmost
    cases ov with
    | true =>
      -- as above
      exact ih m x most' a bg ck true rs h1 (fun h => by cases h) (by omega) hx hmost
    | false =>
      obtain ⟨i, rfl, hgo, h3, h4⟩ := h2 rfl
      obtain ⟨m, rfl⟩ : ∃ q, m = q + 1 := ⟨m - 1, by omega⟩
      have hmem : l.getD i i0 ∈ l := getD_in hgo.lt
      have hrl : rs.length ≤ 1024 := by
        have h := congrArg List.length hgo.runs
        simp only [List.length_map, List.length_take] at h
        omega
      obtain ⟨ld, a', bg', ck', ov', rs', hst, hnx⟩ := step_go (n := n) (by omega) hl hgo.lt (hg _ hmem) (hng _ hmem) ⟨hgo.lo, hgo.hi⟩ hgo.wt num bg on tm rs hrl b2a b2ba m3 b4a b4ba m5 m6 l3
      have hck := hgo.hi
      rw [f3_1000036_eq, f11o_eq]
      simp only [Option.bind_some, Bool.not_false, cond_true]
      rw [hst]
      simp only [Option.bind_some, bne_self_eq_false, cond_false]
      rw [decide_eq_false (show ¬ x ≥ most' by omega), cond_false, wI (n := x + 1) (by omega) (by omega)]
      refine ih m (x + 1) most' a' bg' ck' ov' rs' ?_ ?_ (by omega) (by omega) hmost
      · intro hov
        cases hnx with
        | goes _ _ _ => cases hov
        | ends o ho _ _ =>
          have hlast : i + 1 = l.length := of_decide_eq_true hov
          refine ⟨?_, .inl ?_⟩
          · rw [List.map_append, hgo.runs]
            have h5 : l = l.take i ++ [l.getD i i0] := by
              conv => lhs; rw [← List.take_append_drop i l, getD_drop (d := i0) hgo.lt, List.drop_of_length_le (by omega)]
            conv => rhs; rw [h5]
            simp
          · intro r hr
            rcases List.mem_append.1 hr with hr | hr
            · exact hgo.calm r hr
            · simp only [List.mem_singleton] at hr; subst hr; exact ho
        | panics o =>
          refine ⟨by simp [allOf], .inr ⟨o, fun r hr => ?_⟩⟩
          obtain ⟨y, _, rfl⟩ := List.mem_map.1 hr
          rfl
      · intro hov
        cases hnx with
        | goes q1 q2 q3 =>
          refine ⟨i, rfl, ⟨hgo.lt, by have := hgo.lo; omega, q2, q3, hgo.runs, hgo.calm⟩, by omega, by omega⟩
        | ends o ho q1 q3 =>
          have hlast : i + 1 ≠ l.length := of_decide_eq_false hov
          have hlt : i + 1 < l.length := by have := hgo.lt; omega
          have hm2 : most (l.drop (i + 1)) = (l.getD (i + 1) i0).2.2.2.length + 1 + most (l.drop (i + 1 + 1)) := by
            rw [getD_drop (d := i0) hlt]
            simp [most]
          refine ⟨i + 1, rfl, ⟨hlt, by omega, by omega, q3, ?_, ?_⟩, by omega, by omega⟩
          · rw [List.map_append, hgo.runs, List.take_add_one, List.map_append, List.getElem?_eq_getElem hgo.lt, List.getD_eq_getElem?_getD, List.getElem?_eq_getElem hgo.lt]
            rfl
          · intro r hr
            rcases List.mem_append.1 hr with hr | hr
            · exact hgo.calm r hr
            · simp only [List.mem_singleton] at hr; subst hr; exact ho
        | panics o => cases hov
/-! ### how many steps there are at most, and whether there are gates -/
theorem gates_loop (n : Nat) {l : List Item} (most' x41 x42 num a : Int) (xs : List Item) (bg : Bool) (ck : Cook) (wt on tm : Int) (ov : Bool) (ls : List Item) (rs : List Result) {s : List Step} (hs : s.length ≤ 256) : ∀ (k i m : Nat), i + k = s.length → k < m →
    f3_1000020 n m l most' xs x41 x42 s s.length i num a bg ck wt on tm ov ls rs = some true ∨
    ((∀ x ∈ s.drop i, x.1 ≠ 6 ∧ x.1 ≠ 7) ∧ f3_1000020 n m l most' xs x41 x42 s s.length i num a bg ck wt on tm ov ls rs = f3_1000012 n (m - k - 1) l most' xs x41 (IntKind.i64.wrap (x42 + 1)) num a bg ck wt on tm ov ls rs) := by
  intro k
  induction k with
  | zero =>
    intro i m hi hm
    obtain ⟨m, rfl⟩ : ∃ q, m = q + 1 := ⟨m - 1, by omega⟩
    refine .inr ⟨by rw [List.drop_of_length_le (by omega)]; exact fun x hx => (by cases hx), ?_⟩
    rw [f3_1000020_eq, decide_eq_false (show ¬ (i : Int) < (s.length : Int) by omega), cond_false]
    rfl
  | succ k ih =>
    intro i m hi hm
    obtain ⟨m, rfl⟩ : ∃ q, m = q + 1 := ⟨m - 1, by omega⟩
    have hi' : i < s.length := by omega
    have h1 := ih (i + 1) m (by omega) (by omega)
    rw [show ((i + 1 : Nat) : Int) = (i : Int) + 1 by omega] at h1
    rw [f3_1000020_eq, decide_eq_true (show (i : Int) < (s.length : Int) by omega), decide_eq_true (show (0 : Int) ≤ (i : Int) ∧ (i : Int) < (s.length : Int) by omega), wI (n := (i : Int) + 1) (by omega) (by omega), getD_drop (d := s0) hi', Int.toNat_natCast]
    simp only [cond_true]
    by_cases h6 : (s.getD i s0).1 = 6
    · exact .inl (by rw [h6]; rfl)
    · by_cases h7 : (s.getD i s0).1 = 7
      · exact .inl (by rw [h7]; rfl)
      · rw [beq_false_of_ne h6, beq_false_of_ne h7, cond_false, cond_false]
        rcases h1 with h1 | ⟨h2, h3⟩
        · exact .inl h1
        · refine .inr ⟨fun x hx => ?_, ?_⟩
          · rcases List.mem_cons.1 hx with e | hx
            · rw [e]; exact ⟨h6, h7⟩
            · exact h2 x hx
          · rw [h3, show m + 1 - (k + 1) - 1 = m - k - 1 by omega]
/-- How many steps recipes have. -/
def lens (l : List Item) : Nat := (l.map fun x => x.2.2.2.length).sum
theorem most_lens : ∀ l : List Item, most l = l.length + lens l
  | [] => rfl
  | x :: l => by
    have h := most_lens l
    unfold most lens at h ⊢
    simp only [List.map_cons, List.sum_cons, List.length_cons]
    omega
theorem lens_take {l : List Item} {i : Nat} (h : i < l.length) : lens (l.take (i + 1)) = lens (l.take i) + (l.getD i i0).2.2.2.length := by
  unfold lens
  rw [List.take_add_one, List.getElem?_eq_getElem h, List.getD_eq_getElem?_getD, List.getElem?_eq_getElem h, List.map_append, List.sum_append]
  rfl
theorem items_loop {n : Nat} (hn : 4000 ≤ n) {l : List Item} (hl : l.length ≤ 1024) (hg : ∀ x ∈ l, Good n x) (num on tm : Int) (h0 : l ≠ []) : ∀ (k i m : Nat), i + k = l.length → 300000 + 300 * k < m → (∀ x ∈ l.take i, NG x.2.2.2) →
    f3_1000012 n m l ((l.length + lens (l.take i) : Nat) : Int) l l.length i num 0 false (0, 0, 0, 0) 0 on tm false l [] = some true := by
  have hlen : ∀ x ∈ l, x.2.2.2.length ≤ 256 := fun x hx => (hg x hx).len (by omega)
  intro k
  induction k with
  | zero =>
    intro i m hi hm hng
    obtain ⟨m, rfl⟩ : ∃ q, m = q + 1 := ⟨m - 1, by omega⟩
    have hi' : i = l.length := by omega
    subst hi'
    rw [List.take_length] at hng ⊢
    rw [f3_1000012_eq, decide_eq_false (show ¬ ((l.length : Nat) : Int) < (l.length : Int) by omega), f8o_eq, f9o_eq, f10o_eq, ← most_lens]
    simp only [cond_false, Option.bind_some]
    have hpos : 0 < l.length := by cases l with | nil => exact (h0 rfl).elim | cons _ _ => simp
    have hm1 := most_le hlen
    have hm2 : most l = (l.getD 0 i0).2.2.2.length + 1 + most (l.drop 1) := by
      conv => lhs; rw [← List.drop_zero (l := l), getD_drop (d := i0) hpos]
      simp [most]
    refine steps_loop hn hl hg hng num on tm _ _ _ _ _ _ _ _ (most l) m 0 _ 0 false (0, 0, 0, 0) false [] (fun h => by cases h) (fun _ => ⟨0, rfl, ⟨hpos, by show (0 : Int) ≤ 0; omega, by show (0 : Int) ≤ _; omega, rfl, rfl, fun r hr => (by cases hr)⟩, ?_, ?_⟩) (by omega) (by omega) (by omega)
    · show ((l.getD 0 i0).2.2.2.length : Int) - 0 + 1 + most (l.drop (0 + 1)) ≤ most l
      rw [hm2, Nat.zero_add]
      omega
    · show (0 : Int) + (((l.getD 0 i0).2.2.2.length : Int) - 0 + 1 + most (l.drop (0 + 1))) ≤ most l
      rw [hm2, Nat.zero_add]
      omega
  | succ k ih =>
    intro i m hi hm hng
    obtain ⟨m, rfl⟩ : ∃ q, m = q + 1 := ⟨m - 1, by omega⟩
    have hi' : i < l.length := by omega
    have hmem : l.getD i i0 ∈ l := getD_in hi'
    have hs := hlen _ hmem
    have hb : lens (l.take i) ≤ 257 * l.length := by
      have h1 := most_le (l := l.take i) fun x hx => hlen x (List.mem_of_mem_take hx)
      rw [most_lens] at h1
      have h2 := List.length_take_le i l
      omega
    have h1 := gates_loop n (l := l) ((l.length + lens (l.take (i + 1)) : Nat) : Int) l.length i num 0 l false (0, 0, 0, 0) 0 on tm false l [] hs (l.getD i i0).2.2.2.length 0 m (by omega) (by omega)
    rw [f3_1000012_eq, decide_eq_true (show (i : Int) < (l.length : Int) by omega), decide_eq_true (show (0 : Int) ≤ (i : Int) ∧ (i : Int) < (l.length : Int) by omega), Int.toNat_natCast]
    simp only [cond_true]
    rw [wI (n := ((l.length + lens (l.take i) : Nat) : Int) + ((l.getD i i0).2.2.2.length : Int)) (by omega) (by omega), show ((l.length + lens (l.take i) : Nat) : Int) + ((l.getD i i0).2.2.2.length : Int) = ((l.length + lens (l.take (i + 1)) : Nat) : Int) by rw [lens_take hi']; omega]
    rcases h1 with h1 | ⟨h2, h3⟩
    · exact h1
    · refine h3.trans ?_
      rw [wI (n := (i : Int) + 1) (by omega) (by omega), show ((i : Int) + 1) = ((i + 1 : Nat) : Int) by omega]
      refine ih (i + 1) _ (by omega) (by omega) fun x hx => ?_
      rw [List.take_add_one] at hx
      rcases List.mem_append.1 hx with hx | hx
      · exact hng x hx
      · rw [List.getElem?_eq_getElem hi'] at hx
        simp only [Option.toList_some, List.mem_singleton] at hx
        have e : x = l.getD i i0 := by rw [hx, List.getD_eq_getElem?_getD, List.getElem?_eq_getElem hi']; rfl
        rw [e]
        exact fun y hy => h2 y (by rwa [List.drop_zero])
/-- The law, over data: no size is asked. -/
theorem load_ends (l : List Item) : f3 1000000 l = some true := by
  have ha : f7 1000000 = some true := awake_load 999988
  rw [f3_eq]
  rcases new_go (n := 1000000) (by omega) (num := 1) (by omega) l with ⟨p, h1, h2⟩ | ⟨hg, h0, hl, h1⟩
  · rw [h1, ha]
    simp only [Option.bind_some, Bool.not_true, cond_false]
    rw [Sum.elim_inl, show (p.1.2.2 != 0) = true by simp [h2]]
    rfl
  · rw [h1, ha]
    simp only [Option.bind_some, Bool.not_true, cond_false]
    exact items_loop (n := 1000000) (by omega) hl hg 1 0 0 h0 l.length 0 1000000 (by omega) (by omega) (fun x hx => (by simp at hx))
end Go.Proofs.Ytbmdklndjlmogaa
