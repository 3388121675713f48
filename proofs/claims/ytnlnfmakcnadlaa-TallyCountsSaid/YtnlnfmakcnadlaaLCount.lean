/- All counts of events: what the program's and the document's functions tell is one and the same, and two tallies together. -/
import Derived.Test.YtnlnfmakcnadlaaLTimes
import Derived.Test.YtnlnfmakcnadlaaLLoop
import Derived.Test.YtnlnfmakcnadlaaGf
namespace Go.Proofs.Ytnlnfmakcnadlaa
open Go.Rf
abbrev Tal := List Int × List Int × List Int × Int × Int
abbrev Ky := Int × ByteArray
def kd (e : Ev) : Nat := if 1 ≤ e.2.1 ∧ e.2.1 ≤ 11 then e.2.1.toNat else 0
abbrev how (e : Ev) : Int := e.2.2.2.2.2.2.1
abbrev fk (e : Ev) : Int := e.2.2.2.2.2.2.2.2.2.1
abbrev run (e : Ev) : Int := e.2.2.2.2.1
abbrev ky (e : Ev) : Ky := e.2.2.2.2.2.2.2.1
def stepH (e : Ev) (H : List Int) : List Int := if e.2.1 = 1 ∧ 0 ≤ how e ∧ how e ≤ 6 then bump H (how e).toNat else H
def stepE (e : Ev) (E : List Int) : List Int := if e.2.1 = 5 ∧ 0 ≤ fk e ∧ fk e ≤ 5 then bump E (fk e).toNat else E
/-! ### the document's loop -/
theorem d8 (n m : Nat) (l : List Ev) (i : Nat) (hi : i < l.length) (b : Tal) (K : List Int) (r : List Int × List Int × Int × Int) (R : List Int) :
    f18_8 n (m + 1) l l.length i b (K, r) R = f18_19 n m l l.length i b (bump K (kd (l.getD i z0)), r) (l.getD i z0) R := by
  rw [f18_8_eq, decide_eq_true (show (i : Int) < (l.length : Int) by omega), decide_eq_true (show (0 : Int) ≤ (i : Int) ∧ (i : Int) < (l.length : Int) by omega)]
  simp only [cond_true]
  rw [show List.getD l i z0 = List.getD l (i : Int).toNat z0 from rfl]
  generalize List.getD l (i : Int).toNat z0 = e
  unfold kd bump
  by_cases h1 : e.2.1 ≥ 1
  · by_cases h2 : e.2.1 ≤ 11
    · rw [decide_eq_true h1, decide_eq_true h2, decide_eq_true (show (0 : Int) ≤ e.2.1 ∧ e.2.1 < ((12 : Nat) : Int) by omega), if_pos ⟨h1, h2⟩]
      rfl
    · rw [decide_eq_true h1, decide_eq_false h2, if_neg (fun h => h2 h.2)]
      rfl
  · rw [decide_eq_false h1, if_neg (fun h => h1 h.1)]
    rfl
theorem d19 (n m : Nat) (l : List Ev) (i : Int) (b : Tal) (K H E : List Int) (q : Int × Int) (e : Ev) (R : List Int) :
    f18_19 n (m + 1) l l.length i b (K, H, E, q) e R = f18_23 n m l l.length i b (K, stepH e H, E, q) e R := by
  rw [f18_19_eq]
  unfold stepH bump
  by_cases h0 : e.2.1 = 1
  · by_cases h1 : how e ≥ 0
    · by_cases h2 : how e ≤ 6
      · rw [h0, beq_self_eq_true, decide_eq_true h1, decide_eq_true h2, decide_eq_true (show (0 : Int) ≤ how e ∧ how e < ((7 : Nat) : Int) by omega), if_pos ⟨rfl, h1, h2⟩]
        rfl
      · rw [h0, beq_self_eq_true, decide_eq_true h1, decide_eq_false h2, if_neg (fun h => h2 h.2.2)]
        rfl
    · rw [h0, beq_self_eq_true, decide_eq_false h1, if_neg (fun h => h1 h.2.1)]
      rfl
  · rw [beq_false_of_ne h0, if_neg (fun h => h0 h.1)]
    rfl
theorem d23 (n m : Nat) (l : List Ev) (i : Int) (b : Tal) (K H E : List Int) (q : Int × Int) (e : Ev) (R : List Int) :
    f18_23 n (m + 1) l l.length i b (K, H, E, q) e R = f18_29 n m l l.length i b (K, H, stepE e E, q) e R := by
  rw [f18_23_eq]
  unfold stepE bump
  by_cases h0 : e.2.1 = 5
  · by_cases h1 : fk e ≥ 0
    · by_cases h2 : fk e ≤ 5
      · rw [h0, beq_self_eq_true, decide_eq_true h1, decide_eq_true h2, decide_eq_true (show (0 : Int) ≤ fk e ∧ fk e < ((6 : Nat) : Int) by omega), if_pos ⟨rfl, h1, h2⟩]
        rfl
      · rw [h0, beq_self_eq_true, decide_eq_true h1, decide_eq_false h2, if_neg (fun h => h2 h.2.2)]
        rfl
    · rw [h0, beq_self_eq_true, decide_eq_false h1, if_neg (fun h => h1 h.2.1)]
      rfl
  · rw [beq_false_of_ne h0, if_neg (fun h => h0 h.1)]
    rfl
theorem d34 (n : Nat) (l : List Ev) (i : Int) (b T : Tal) (e : Ev) (R : List Int) (hR : R.length ≤ 2000) {m : Nat} (hm : R.length + 1 ≤ m) :
    ∃ m', m ≤ m' + 2001 ∧ f18_34 n m l l.length i R.length 0 b T e R [] = f18_47 n m' l l.length i b T e (R.filter (· != run e)) := by
  obtain ⟨s, m1, h1, h2, h3⟩ := loopN (G := fun m j (acc : List Int) => f18_34 n m l l.length i R.length j b T e R acc) (I := fun j acc => acc = (R.take j).filter (· != run e)) (len := R.length) (c := 1)
    (by
      intro m j acc hj hI hm
      obtain ⟨m, rfl⟩ : ∃ q, m = q + 1 := ⟨m - 1, by omega⟩
      refine ⟨_, m, rfl, by omega, ?_⟩
      show f18_34 n (m + 1) l l.length i R.length j b T e R acc = _
      have hacc : acc.length ≤ 2000 := by
        rw [hI]
        exact Nat.le_trans (List.length_filter_le _ _) (by simp; omega)
      rw [f18_34_eq, decide_eq_true (show (j : Int) < (R.length : Int) by omega), decide_eq_true (show (0 : Int) ≤ (j : Int) ∧ (j : Int) < (R.length : Int) by omega), wI (n := (j : Int) + 1) (by omega) (by omega),
        decide_eq_true (show (acc.length + [R.getD (j : Int).toNat 0].length) * 8 ≤ Go.Rf.maxBytes by show (acc.length + 1) * 8 ≤ 140737488355328; omega)]
      have ht : R.take (j + 1) = R.take j ++ [R.getD j 0] := by
        rw [List.take_add_one, List.getD_eq_getElem?_getD, List.getElem?_eq_getElem hj]
        simp
      simp only [cond_true, Int.toNat_natCast, ht, List.filter_append, hI]
      show (bif R.getD j 0 != run e then _ else _) = _
      cases hq : (R.getD j 0 != run e) with
      | true => simp only [cond_true, List.filter_cons, hq, if_true, List.filter_nil]; rfl
      | false => simp only [cond_false, List.filter_cons, hq, List.filter_nil]; rw [if_neg (by simp), List.append_nil]; rfl)
    R.length 0 m [] (by omega) (by simp) (by omega)
  obtain ⟨m1, rfl⟩ : ∃ q, m1 = q + 1 := ⟨m1 - 1, by omega⟩
  refine ⟨m1, by omega, ?_⟩
  rw [List.take_length] at h1
  rw [show ((0 : Nat) : Int) = 0 from rfl] at h3
  rw [h3, ← h1]
  show f18_34 n (m1 + 1) l l.length i R.length (R.length : Nat) b T e R s = _
  rw [f18_34_eq, decide_eq_false (show ¬ (R.length : Int) < (R.length : Int) by omega)]
  rfl
def stepR (e : Ev) (R : List Int) : List Int :=
  if e.2.1 = 2 then R.filter (· != run e) ++ [run e] else if e.2.1 = 5 then R.filter (· != run e) else R
theorem stepR_len (e : Ev) (R : List Int) : (stepR e R).length ≤ R.length + 1 := by
  unfold stepR
  have := List.length_filter_le (· != run e) R
  split
  · simp; omega
  · split <;> omega
/-- One event in the document's loop. -/
theorem doc_step (n : Nat) (l : List Ev) (hl : l.length ≤ 2000) (b : Tal) {m i : Nat} (hi : i < l.length) (K H E : List Int) (keys most : Int) (R : List Int) (hR : R.length ≤ i) (hm : 2010 ≤ m) :
    ∃ m', m ≤ m' + 2010 ∧ f18_8 n m l l.length i b (K, H, E, keys, most) R =
      f18_8 n m' l l.length ((i + 1 : Nat) : Int) b (bump K (kd (l.getD i z0)), stepH (l.getD i z0) H, stepE (l.getD i z0) E, keys, if ((stepR (l.getD i z0) R).length : Int) > most then ((stepR (l.getD i z0) R).length : Int) else most) (stepR (l.getD i z0) R) := by
  obtain ⟨m, rfl⟩ : ∃ q, m = q + 4 := ⟨m - 4, by omega⟩
  rw [d8 n (m + 3) l i hi, d19 n (m + 2), d23 n (m + 1), f18_29_eq]
  generalize List.getD l i z0 = e
  generalize bump K (kd e) = K
  generalize stepH e H = H
  generalize stepE e E = E
  have fin : ∀ (m : Nat) (R : List Int), f18_51 n (m + 1) l l.length i b (K, H, E, keys, most) R = f18_8 n m l l.length ((i + 1 : Nat) : Int) b (K, H, E, keys, if (R.length : Int) > most then (R.length : Int) else most) R := by
    intro m R
    rw [f18_51_eq, wI (n := (i : Int) + 1) (by omega) (by omega)]
    by_cases h : (R.length : Int) > most
    · rw [decide_eq_true h, if_pos h]; rfl
    · rw [decide_eq_false h, if_neg h]; rfl
  have hR2 := List.length_filter_le (· != run e) R
  have big : ((R.filter (· != run e)).length + [run e].length) * 8 ≤ Go.Rf.maxBytes := by show (_ + 1) * 8 ≤ 140737488355328; omega
  by_cases h2 : e.2.1 = 2
  · obtain ⟨m1, h3, h4⟩ := d34 n l i b (K, H, E, keys, most) e R (by omega) (m := m) (by omega)
    obtain ⟨m1, rfl⟩ : ∃ q, m1 = q + 2 := ⟨m1 - 2, by omega⟩
    refine ⟨m1, by omega, ?_⟩
    rw [h2, beq_self_eq_true, cond_true, h4, f18_47_eq, h2, beq_self_eq_true, cond_true]
    have : stepR e R = R.filter (· != run e) ++ [run e] := by unfold stepR; rw [if_pos h2]
    rw [this]
    show (bif decide (((R.filter (· != run e)).length + [run e].length) * 8 ≤ Go.Rf.maxBytes) then _ else _) = _
    rw [decide_eq_true big, cond_true]
    exact fin m1 _
  · by_cases h5 : e.2.1 = 5
    · obtain ⟨m1, h3, h4⟩ := d34 n l i b (K, H, E, keys, most) e R (by omega) (m := m) (by omega)
      obtain ⟨m1, rfl⟩ : ∃ q, m1 = q + 2 := ⟨m1 - 2, by omega⟩
      refine ⟨m1, by omega, ?_⟩
      rw [beq_false_of_ne h2, cond_false, h5, beq_self_eq_true, cond_true, h4, f18_47_eq, beq_false_of_ne h2, cond_false]
      have : stepR e R = R.filter (· != run e) := by unfold stepR; rw [if_neg h2, if_pos h5]
      rw [this]
      exact fin m1 _
    · obtain ⟨m, rfl⟩ : ∃ q, m = q + 2 := ⟨m - 2, by omega⟩
      refine ⟨m, by omega, ?_⟩
      rw [beq_false_of_ne h2, cond_false, beq_false_of_ne h5, cond_false, f18_47_eq, beq_false_of_ne h2, cond_false]
      have : stepR e R = R := by unfold stepR; rw [if_neg h2, if_neg h5]
      rw [this]
      exact fin m _
/-! ### the program's loop -/
abbrev eqK : Ky → Ky → Bool := eqD (.agg (.pair (.int .u16) .str))
def stepK (e : Ev) (m : List (Ky × Bool)) : List (Ky × Bool) := if e.2.1 = 1 then mput eqK (ky e) true m else m
def stepP (e : Ev) (m : List (Int × Bool)) : List (Int × Bool) := if e.2.1 = 2 then mput (eqD (.int .i64)) (run e) true m else if e.2.1 = 5 then mdel (eqD (.int .i64)) (run e) m else m
def stepM (e : Ev) (p : List (Int × Bool)) (most : Int) : Int := if e.2.1 = 2 then (if (p.length : Int) > most then (p.length : Int) else most) else most
theorem kd_eq (e : Ev) : kd e = if e.2.1 < 0 then 0 else if e.2.1 ≥ 12 then 0 else e.2.1.toNat := by
  unfold kd
  by_cases h : e.2.1 < 0
  · rw [if_pos h, if_neg (by omega)]
  · rw [if_neg h]
    by_cases h2 : e.2.1 ≥ 12
    · rw [if_pos h2, if_neg (by omega)]
    · rw [if_neg h2]
      split <;> omega
theorem prog_21 (n m : Nat) (l : List Ev) (i : Nat) (hi : i < 2000) (b : Tal) (K H E : List Int) (keys most : Int) (e : Ev) (mk : List (Ky × Bool)) (mp : List (Int × Bool)) :
    f17_21 n (m + 1) (kd e : Nat) l l.length i b (K, H, E, keys, most) e mk mp =
      f17_10 n m l l.length ((i + 1 : Nat) : Int) b (bump K (kd e), stepH e H, stepE e E, keys, stepM e (stepP e mp) most) (stepK e mk) (stepP e mp) := by
  have hk : kd e < 12 := by unfold kd; split <;> omega
  rw [f17_21_eq, wI (n := (i : Int) + 1) (by omega) (by omega), decide_eq_true (show (0 : Int) ≤ (kd e : Int) ∧ (kd e : Int) < ((12 : Nat) : Int) by omega)]
  simp only [cond_true, Int.toNat_natCast]
  have k1 : (((kd e : Nat) : Int) == 1) = decide (e.2.1 = 1) := by
    unfold kd
    split
    · rw [Int.toNat_of_nonneg (by omega)]; rfl
    · rw [decide_eq_false (by omega)]; rfl
  have k2 : (((kd e : Nat) : Int) == 2) = decide (e.2.1 = 2) := by
    unfold kd
    split
    · rw [Int.toNat_of_nonneg (by omega)]; rfl
    · rw [decide_eq_false (by omega)]; rfl
  have k5 : (((kd e : Nat) : Int) == 5) = decide (e.2.1 = 5) := by
    unfold kd
    split
    · rw [Int.toNat_of_nonneg (by omega)]; rfl
    · rw [decide_eq_false (by omega)]; rfl
  rw [k1, k2, k5]
  unfold stepH stepE stepM stepK stepP
  by_cases h1 : e.2.1 = 1
  · rw [decide_eq_true h1, if_neg (show ¬ (e.2.1 = 5 ∧ 0 ≤ fk e ∧ fk e ≤ 5) by omega), if_neg (show ¬ e.2.1 = 2 by omega), if_pos h1, if_neg (show ¬ e.2.1 = 2 by omega), if_neg (show ¬ e.2.1 = 5 by omega), cond_true]
    by_cases h2 : how e ≥ 0
    · by_cases h3 : how e < 7
      · rw [decide_eq_true h2, decide_eq_true h3, decide_eq_true (show (0 : Int) ≤ how e ∧ how e < ((7 : Nat) : Int) by omega), if_pos ⟨h1, h2, by omega⟩]
        rfl
      · rw [decide_eq_true h2, decide_eq_false h3, if_neg (by omega)]
        rfl
    · rw [decide_eq_false h2, if_neg (by omega)]
      rfl
  · rw [decide_eq_false h1, cond_false, if_neg (show ¬ (e.2.1 = 1 ∧ 0 ≤ how e ∧ how e ≤ 6) by omega), if_neg h1]
    by_cases h2 : e.2.1 = 2
    · rw [decide_eq_true h2, cond_true, if_neg (show ¬ (e.2.1 = 5 ∧ 0 ≤ fk e ∧ fk e ≤ 5) by omega), if_pos h2, if_pos h2]
      rfl
    · rw [decide_eq_false h2, cond_false, if_neg h2, if_neg h2]
      by_cases h5 : e.2.1 = 5
      · rw [decide_eq_true h5, cond_true, if_pos h5]
        by_cases h3 : fk e ≥ 0
        · by_cases h4 : fk e < 6
          · rw [decide_eq_true h3, decide_eq_true h4, decide_eq_true (show (0 : Int) ≤ fk e ∧ fk e < ((6 : Nat) : Int) by omega), if_pos ⟨h5, h3, by omega⟩]
            rfl
          · rw [decide_eq_true h3, decide_eq_false h4, if_neg (by omega)]
            rfl
        · rw [decide_eq_false h3, if_neg (by omega)]
          rfl
      · rw [decide_eq_false h5, cond_false, if_neg h5, if_neg (by omega)]
        rfl
theorem prog_step (n : Nat) (l : List Ev) (hl : l.length ≤ 2000) (b : Tal) {m i : Nat} (hi : i < l.length) (K H E : List Int) (keys most : Int) (mk : List (Ky × Bool)) (mp : List (Int × Bool)) :
    f17_10 n (m + 2) l l.length i b (K, H, E, keys, most) mk mp =
      f17_10 n m l l.length ((i + 1 : Nat) : Int) b (bump K (kd (l.getD i z0)), stepH (l.getD i z0) H, stepE (l.getD i z0) E, keys, stepM (l.getD i z0) (stepP (l.getD i z0) mp) most) (stepK (l.getD i z0) mk) (stepP (l.getD i z0) mp) := by
  rw [f17_10_eq, decide_eq_true (show (i : Int) < (l.length : Int) by omega), decide_eq_true (show (0 : Int) ≤ (i : Int) ∧ (i : Int) < (l.length : Int) by omega)]
  simp only [cond_true]
  rw [show List.getD l i z0 = List.getD l (i : Int).toNat z0 from rfl]
  have h := prog_21 n m l i (by omega) b K H E keys most (l.getD (i : Int).toNat z0) mk mp
  revert h
  generalize List.getD l (i : Int).toNat z0 = e
  intro h
  rw [← h, kd_eq]
  by_cases h1 : e.2.1 < 0
  · rw [decide_eq_true h1, if_pos h1, cond_true, show ((0 : Nat) : Int) = 0 from rfl]
  · rw [decide_eq_false h1, if_neg h1, cond_false]
    by_cases h2 : e.2.1 ≥ 12
    · rw [decide_eq_true h2, if_pos h2, cond_true, show ((0 : Nat) : Int) = 0 from rfl]
    · rw [decide_eq_false h2, if_neg h2, Int.toNat_of_nonneg (by omega), cond_false]
end Go.Proofs.Ytnlnfmakcnadlaa
