/- A load: its copied items, New, one step, how an item ends. -/
import Derived.Test.YtbmdklndjlmogaaLRec
import Derived.Test.YtbmdklndjlmogaaLLoop
import Derived.Test.YtbmdklndjlmogaaGc
namespace Go.Proofs.Ytbmdklndjlmogaa
open Go.Rf
abbrev Item := Int × ((Int × ByteArray) × (Int × List Step))
abbrev Outcome := Int × (Int × (Int × Int))
abbrev Result := Int × Outcome
abbrev i0 : Item := (0, (0, ByteArray.empty), 0, [])
theorem maxB_eq : maxBytes = 140737488355328 := rfl
theorem clone_items (n : Nat) {l : List Item} (h0 : l ≠ []) (h : l.length ≤ 1024) : f44o n l = some ((), l, ()) := by
  have he : l.isEmpty = false := by cases l with | nil => exact (h0 rfl).elim | cons _ _ => rfl
  rw [f44o_eq, he, cond_false, decide_eq_true (by rw [maxB_eq]; omega), cond_true, List.nil_append]
theorem clone_steps (n : Nat) {l : List Step} (h : l.length ≤ 256) : f45o n l = some ((), l, ()) := by
  rw [f45o_eq, decide_eq_true (by rw [maxB_eq]; omega), cond_true, List.nil_append]
  cases l with
  | nil => exact both_self _
  | cons _ _ => rfl
theorem set_self {α : Type} {l : List α} {i : Nat} {d : α} (h : i < l.length) : l.set i (l.getD i d) = l := by
  rw [List.getD_eq_getElem?_getD, List.getElem?_eq_getElem h]
  simp
theorem copied_loop (n : Nat) {l : List Item} (hl : l.length ≤ 1024) (hr : ∀ x ∈ l, x.2.2.2.length ≤ 256) : ∀ (k i m : Nat), i + k = l.length → k < m → f28o_6 n m l.length i l = some ((), l, ()) := by
  intro k
  induction k with
  | zero =>
    intro i m hi hm
    obtain ⟨m, rfl⟩ : ∃ q, m = q + 1 := ⟨m - 1, by omega⟩
    rw [f28o_6_eq, decide_eq_false (show ¬ (i : Int) < (l.length : Int) by omega)]
    rfl
  | succ k ih =>
    intro i m hi hm
    obtain ⟨m, rfl⟩ : ∃ q, m = q + 1 := ⟨m - 1, by omega⟩
    have hi' : i < l.length := by omega
    have hm' : l.getD i i0 ∈ l := by
      rw [List.getD_eq_getElem?_getD, List.getElem?_eq_getElem hi']
      simp
    have h1 := ih (i + 1) m (by omega) (by omega)
    have h2 := clone_steps n (hr _ hm')
    rw [f28o_6_eq, decide_eq_true (show (i : Int) < (l.length : Int) by omega), decide_eq_true (show (0 : Int) ≤ (i : Int) ∧ (i : Int) < (l.length : Int) by omega), wI (n := (i : Int) + 1) (by omega) (by omega), Int.toNat_natCast, h2]
    simp only [cond_true, Option.bind_some]
    rw [show ((i : Int) + 1) = ((i + 1 : Nat) : Int) by omega]
    refine (congrArg (f28o_6 n m (l.length : Int) ((i + 1 : Nat) : Int)) ?_).trans h1
    exact set_self hi'
theorem copied_go {n : Nat} (hn : 1025 ≤ n) {l : List Item} (h0 : l ≠ []) (hl : l.length ≤ 1024) (hr : ∀ x ∈ l, x.2.2.2.length ≤ 256) : f28o n l = some ((), l, ()) := by
  rw [f28o_eq, clone_items n h0 hl]
  exact copied_loop n hl hr l.length 0 n (by omega) (by omega)
/-- What a recipe in a load is. -/
def Good (n : Nat) (x : Item) : Prop := x.2.1.2.size ≤ 64 ∧ ∃ q, f27 n x.2.2.2 = some q ∧ q.2 = 0
theorem Good.len {n : Nat} (hn : 257 ≤ n) {x : Item} (h : Good n x) : x.2.2.2.length ≤ 256 := by
  obtain ⟨_, q, h1, h2⟩ := h
  obtain ⟨r, h3, h4⟩ := check_go hn x.2.2.2
  rw [h1] at h3
  cases h3
  exact (h4 h2).1
noncomputable def fin6 (n : Nat) (number : Int) (items : List Item) : Option ((((Unit × (Int × Int)) × Unit) ⊕ ((Unit × (Int × Int)) × ((Int × (Unit × (Int × (Bool × ((Int × (Int × (Int × Int))) × (Int × (Int × (Int × (Unit × Bool))))))))) × (List (Int × ((Int × ByteArray) × (Int × List (Int × (Int × Int))))) × (List (Int × (Int × (Int × (Int × Int)))) × Unit)))))) :=
  (f28o n items).bind fun r3 =>
   some (Sum.inr ((((), (0 : Int), (0 : Int)), ((number, ((), ((0 : Int), (false, (((0 : Int), (0 : Int), (0 : Int), (0 : Int)), ((0 : Int), ((0 : Int), ((0 : Int), ((), false))))))))), r3.snd.fst, [], ()))))
theorem new_loop {n : Nat} (hn : 257 ≤ n) (num : Int) {l : List Item} (hl : l.length ≤ 1024) : ∀ (k i m : Nat) (last : Int), i + k = l.length → k < m →
    (∃ p, f6o_10 n m num l last l l.length i = some (.inl p) ∧ p.1.2.2 ≠ 0) ∨ ((∀ x ∈ l.drop i, Good n x) ∧ f6o_10 n m num l last l l.length i = fin6 n num l) := by
  intro k
  induction k with
  | zero =>
    intro i m last hi hm
    obtain ⟨m, rfl⟩ : ∃ q, m = q + 1 := ⟨m - 1, by omega⟩
    refine .inr ⟨?_, ?_⟩
    · rw [List.drop_of_length_le (by omega)]
      intro x hx
      cases hx
    · rw [f6o_10_eq, decide_eq_false (show ¬ (i : Int) < (l.length : Int) by omega), cond_false, fin6]
  | succ k ih =>
    intro i m last hi hm
    obtain ⟨m, rfl⟩ : ∃ q, m = q + 1 := ⟨m - 1, by omega⟩
    have hi' : i < l.length := by omega
    have h1 := ih (i + 1) m (l.getD i i0).1 (by omega) (by omega)
    obtain ⟨x, hx⟩ : ∃ x, l.getD i i0 = x := ⟨_, rfl⟩
    have hx' : l.getD i ((0 : Int), ((0 : Int), ByteArray.empty), (0 : Int), ([] : List Step)) = x := hx
    obtain ⟨q, hq, _⟩ := check_go hn x.2.2.2
    rw [f6o_10_eq, decide_eq_true (show (i : Int) < (l.length : Int) by omega), decide_eq_true (show (0 : Int) ≤ (i : Int) ∧ (i : Int) < (l.length : Int) by omega), wI (n := (i : Int) + 1) (by omega) (by omega), getD_drop (d := i0) hi', hx]
    rw [show ((i + 1 : Nat) : Int) = (i : Int) + 1 by omega, hx] at h1
    simp only [Int.toNat_natCast, hx', hq, f26_eq, cond_true, Option.bind_some]
    cases decide (x.1 < 1) with
    | true => exact .inl ⟨_, rfl, show (140 : Int) ≠ 0 by decide⟩
    | false => cases decide (x.1 ≤ last) with
      | true => exact .inl ⟨_, rfl, show (140 : Int) ≠ 0 by decide⟩
      | false => cases decide (x.2.2.1 < 0) with
        | true => exact .inl ⟨_, rfl, show (140 : Int) ≠ 0 by decide⟩
        | false =>
          simp only [cond_false]
          by_cases hk : (x.2.1.2.size : Int) > 64
          · rw [decide_eq_true hk]
            exact .inl ⟨_, rfl, show (20 : Int) ≠ 0 by decide⟩
          · rw [decide_eq_false hk]
            simp only [cond_false, Option.bind_some, bne_self_eq_false]
            by_cases hz : q.2 = 0
            · rw [hz, bne_self_eq_false, cond_false]
              rcases h1 with h1 | ⟨h2, h3⟩
              · exact .inl h1
              · refine .inr ⟨fun y hy => ?_, h3⟩
                rcases List.mem_cons.1 hy with e | hy
                · rw [e]; exact ⟨by omega, q, hq, hz⟩
                · exact h2 y hy
            · rw [show (q.2 != 0) = true by simp [hz], cond_true]
              exact .inl ⟨_, rfl, hz⟩
/-- New: an error, or a load at its first item. -/
theorem new_go {n : Nat} (hn : 1025 ≤ n) {num : Int} (hnum : 1 ≤ num) (l : List Item) : (∃ p, f6o n num l = some (.inl p) ∧ p.1.2.2 ≠ 0) ∨
    ((∀ x ∈ l, Good n x) ∧ l ≠ [] ∧ l.length ≤ 1024 ∧ f6o n num l = some (.inr (((), 0, 0), (num, (), 0, false, (0, 0, 0, 0), 0, 0, 0, (), false), l, [], ()))) := by
  rw [f6o_eq, decide_eq_false (by omega), cond_false]
  by_cases h0 : l = []
  · subst h0
    exact .inl ⟨_, rfl, by decide⟩
  · have hlen : ((l.length : Int) == 0) = false := by
      cases l with
      | nil => exact (h0 rfl).elim
      | cons _ _ => exact beq_false_of_ne (by simp only [List.length_cons]; omega)
    rw [hlen, cond_false]
    by_cases h1 : (l.length : Int) > 1024
    · rw [decide_eq_true h1]
      exact .inl ⟨_, rfl, by decide⟩
    · rw [decide_eq_false h1, cond_false]
      rcases new_loop (n := n) (by omega) num (l := l) (by omega) l.length 0 n 0 (by omega) (by omega) with h2 | ⟨h2, h3⟩
      · exact .inl h2
      · have hg : ∀ x ∈ l, Good n x := by simpa using h2
        refine .inr ⟨hg, h0, by omega, ?_⟩
        rw [show ((0 : Nat) : Int) = 0 from rfl] at h3
        rw [h3, fin6, copied_go hn h0 (by omega) (fun x hx => (hg x hx).len (by omega))]
        rfl
/-! ### an item ends -/
/-- What each run has behind a panic. -/
def allOf (o : Outcome) (l : List Item) : List Result := l.map fun x => (x.1, o)
theorem ended_loop (n : Nat) {l : List Item} (hl : l.length ≤ 1024) (what run num at_ : Int) (bg : Bool) (ck : Cook) (wt on tm : Int) (ov : Bool) (o b6 : Outcome) : ∀ (k i m : Nat) (rs : List Result), i + k = l.length → rs.length = i → k < m →
    f30o_16 n m what run l.length i num at_ bg ck wt on tm ov o b6 l rs = some ((6, run, 0, 0), (num, (), (l.length : Int), bg, ck, wt, on, tm, (), true), l, rs ++ allOf o (l.drop i), ()) := by
  intro k
  induction k with
  | zero =>
    intro i m rs hi hr hm
    obtain ⟨m, rfl⟩ : ∃ q, m = q + 1 := ⟨m - 1, by omega⟩
    rw [f30o_16_eq, decide_eq_false (show ¬ (i : Int) < (l.length : Int) by omega), beq_self_eq_true, List.drop_of_length_le (by omega)]
    simp only [cond_false, cond_true, allOf, List.map_nil, List.append_nil]
  | succ k ih =>
    intro i m rs hi hr hm
    obtain ⟨m, rfl⟩ : ∃ q, m = q + 1 := ⟨m - 1, by omega⟩
    have hi' : i < l.length := by omega
    have h1 := ih (i + 1) m (rs ++ [((l.getD i i0).1, o)]) (by omega) (by simp [hr]) (by omega)
    rw [f30o_16_eq, decide_eq_true (show (i : Int) < (l.length : Int) by omega), decide_eq_true (show (0 : Int) ≤ (i : Int) ∧ (i : Int) < (l.length : Int) by omega), wI (n := (i : Int) + 1) (by omega) (by omega),
      decide_eq_true (by rw [maxB_eq]; simp only [List.length_cons, List.length_nil]; omega), Int.toNat_natCast, show ((i : Int) + 1) = ((i + 1 : Nat) : Int) by omega]
    simp only [cond_true]
    rw [h1, getD_drop (d := i0) hi']
    simp [allOf]
/-- The state of a load. -/
abbrev Ld := Int × (Unit × (Int × (Bool × ((Int × (Int × (Int × Int))) × (Int × (Int × (Int × (Unit × Bool))))))))
theorem ended_panic {n : Nat} (hn : 1025 ≤ n) {l : List Item} (hl : l.length ≤ 1024) {o : Outcome} (ho : o.2.1 = 2) (what num : Int) (i : Nat) (hi : i < l.length) (bg : Bool) (ck : Cook) (wt on tm : Int) (rs : List Result) (hr : rs.length ≤ 1024) :
    ∃ ld, f30o n o what num i bg ck wt on tm false l rs = some (ld, (num, (), (l.length : Int), false, (0, 0, 0, 0), wt, on, tm, (), true), l, allOf o l, ()) := by
  have h1 := ended_loop n hl what (l.getD i i0).1 num (IntKind.i64.wrap ((i : Int) + 1)) false (0, 0, 0, 0) wt on tm false o (0, 0, 0, 0) l.length 0 n [] (by omega) rfl (by omega)
  rw [f30o_eq, decide_eq_true (show (0 : Int) ≤ (i : Int) ∧ (i : Int) < (l.length : Int) by omega), decide_eq_true (by rw [maxB_eq]; simp only [List.length_cons, List.length_nil]; omega), ho, beq_self_eq_true, Int.toNat_natCast]
  simp only [cond_true]
  rw [show ((0 : Nat) : Int) = 0 from rfl] at h1
  rw [h1]
  exact ⟨_, rfl⟩
theorem ended_plain (n : Nat) {l : List Item} (hl : l.length ≤ 1024) {o : Outcome} (ho : o.2.1 ≠ 2) (what num : Int) (i : Nat) (hi : i < l.length) (bg : Bool) (ck : Cook) (wt on tm : Int) (rs : List Result) (hr : rs.length ≤ 1024) :
    ∃ ld, f30o n o what num i bg ck wt on tm false l rs = some (ld, (num, (), ((i + 1 : Nat) : Int), false, (0, 0, 0, 0), wt, on, tm, (), decide (i + 1 = l.length)), l, rs ++ [((l.getD i i0).1, o)], ()) := by
  rw [f30o_eq, decide_eq_true (show (0 : Int) ≤ (i : Int) ∧ (i : Int) < (l.length : Int) by omega), decide_eq_true (by rw [maxB_eq]; simp only [List.length_cons, List.length_nil]; omega), beq_false_of_ne ho, Int.toNat_natCast, wI (n := (i : Int) + 1) (by omega) (by omega)]
  simp only [cond_true, cond_false]
  by_cases h : i + 1 = l.length
  · rw [show ((i : Int) + 1) = (l.length : Int) by omega, beq_self_eq_true, cond_true, decide_eq_true h, h]
    exact ⟨_, rfl⟩
  · rw [beq_false_of_ne (show (i : Int) + 1 ≠ (l.length : Int) by omega), cond_false, decide_eq_false h]
    exact ⟨_, rfl⟩
/-- No token is cancelled where none is. -/
theorem is_none (n : Nat) (t : Int) : f29o n t [] = some (false, (), [], ()) := by
  have h : f58o n t [] = some ((), (), [], ()) := by
    rw [f58o_eq]
    by_cases h : t < 1
    · rw [decide_eq_true h]; rfl
    · rw [decide_eq_false h, decide_eq_true (show t > (([] : List (Int × Int × Int)).length : Int) by simp only [List.length_nil]; omega)]; rfl
  rw [f29o_eq, f46o_eq, h]
  rfl
/-- What one step comes to. -/
inductive Next (l : List Item) (i : Nat) (ck : Cook) (rs : List Result) : Int → Bool → Cook → Bool → List Result → Prop
  | goes {bg : Bool} {ck' : Cook} (h1 : ck.1 < ck'.1) (h2 : ck'.1 ≤ ((l.getD i i0).2.2.2.length : Int)) (h3 : ck'.2.2.1 = 0) : Next l i ck rs i bg ck' false rs
  | ends {bg : Bool} {ck' : Cook} (o : Outcome) (ho : o.2.1 ≠ 2) (h1 : ck'.1 = 0) (h3 : ck'.2.2.1 = 0) : Next l i ck rs ((i + 1 : Nat) : Int) bg ck' (decide (i + 1 = l.length)) (rs ++ [((l.getD i i0).1, o)])
  | panics {a : Int} {bg : Bool} {ck' : Cook} (o : Outcome) : Next l i ck rs a bg ck' true (allOf o l)
theorem step_go {n : Nat} (hn : 1025 ≤ n) {l : List Item} (hl : l.length ≤ 1024) {i : Nat} (hi : i < l.length) (hg : Good n (l.getD i i0)) (hng : NG (l.getD i i0).2.2.2) {ck : Cook} (hc : 0 ≤ ck.1 ∧ ck.1 ≤ ((l.getD i i0).2.2.2.length : Int)) (hw : ck.2.2.1 = 0)
    (num : Int) (bg : Bool) (on tm : Int) (rs : List Result) (hr : rs.length ≤ 1024) (b2a : List Bool) (b2ba : List Unit) (m3 : List (Int × Int)) (b4a b4ba : Int) (m5 : List (Int × Int)) (m6 : List (Int × List Int)) (l3 : List Int) :
    ∃ ld a' bg' ck' ov' rs', f12o n num i bg ck 0 on tm false b2a b2ba m3 b4a b4ba m5 m6 l rs l3 [] =
      some ((ld, 0), (num, (), a', bg', ck', 0, on, tm, (), ov'), (b2a, b2ba, ()), m3, (b4a, b4ba, (), (), ()), m5, m6, (), l, rs', l3, [], ()) ∧ Next l i ck rs a' bg' ck' ov' rs' := by
  obtain ⟨hk, q, hq, h0⟩ := hg
  have hrb : reachBytes = 140737488351232 := by decide
  obtain ⟨d, o, b, hd, hb⟩ := do_go (n := n) (x := ((l.getD i i0).2.1, (l.getD i i0).1, false)) hq h0 hng (by show (l.getD i i0).2.1.2.size ≤ _; omega) (by show (l.getD i i0).2.1.2.size + 300 ≤ n; omega) hc hw
  rw [f12o_eq, decide_eq_true (show (0 : Int) ≤ (i : Int) ∧ (i : Int) < (l.length : Int) by omega), is_none]
  simp only [cond_false, cond_true, Option.bind_some, bne_self_eq_false, Int.toNat_natCast, hd]
  cases b with
  | true =>
    by_cases ho : o.2.1 = 2
    · obtain ⟨ld, h⟩ := ended_panic hn hl ho 5 num i hi bg ck 0 on tm rs hr
      rw [h]
      simp only [cond_true, Option.bind_some]
      cases bg <;> exact ⟨_, _, _, _, _, _, rfl, .panics o⟩
    · obtain ⟨ld, h⟩ := ended_plain n hl ho 5 num i hi bg ck 0 on tm rs hr
      rw [h]
      simp only [cond_true, Option.bind_some]
      cases bg <;> exact ⟨_, _, _, _, _, _, rfl, .ends o ho rfl rfl⟩
  | false =>
    rcases hb with hb | ⟨h1, h2, h3⟩
    · cases hb
    · simp only [cond_false, h3, bne_self_eq_false]
      cases bg <;> exact ⟨_, _, _, _, _, _, rfl, .goes h1 h2 h3⟩
end Go.Proofs.Ytbmdklndjlmogaa
