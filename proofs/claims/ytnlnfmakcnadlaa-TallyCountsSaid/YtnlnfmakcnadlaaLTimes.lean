/- How long callers waited, and how long runs were: what the program's and the document's functions tell is one and the same. -/
import Derived.Test.YtnlnfmakcnadlaaLQuant
import Derived.Test.YtnlnfmakcnadlaaGd
namespace Go.Proofs.Ytnlnfmakcnadlaa
open Go.Rf
abbrev Ev := Int × Int × Int × Int × Int × Int × Int × (Int × ByteArray) × Int × Int × Int × Int
/-- An event's caller, or its run. -/
def num (c : Bool) (e : Ev) : Int := match c with | true => e.2.2.2.1 | false => e.2.2.2.2.1
/-- The tick of the last event of a kind and number; what happened last stands first. -/
def lastF (c : Bool) (kind k : Int) : List Ev → Option Int
  | [] => none
  | e :: r => if e.2.1 = kind ∧ num c e = k then some e.1 else lastF c kind k r
/-- One more in a bucket. -/
def bump (b : List Int) (i : Nat) : List Int := b.set i (IntKind.i64.wrap (b.getD i 0 + 1))
def cnt (b : List Int) (at' : Option Int) (to : Int) : List Int :=
  match at' with
  | some a => if 0 ≤ a ∧ a ≤ to ∧ to ≤ 4611686018427387904 then bump b (lenOf (to - a).toNat) else b
  | none => b
/-- The buckets behind all events. -/
def walk (c : Bool) (kf kt : Int) : List Ev → List Ev → List Int → List Int
  | _, [], b => b
  | prev, e :: r, b => walk c kf kt (e :: prev) r (if e.2.1 = kt then cnt b (lastF c kf (num c e) prev) e.1 else b)
abbrev z0 : Ev := (0, 0, 0, 0, 0, 0, 0, (0, ByteArray.empty), 0, 0, 0, 0)
theorem eqI (a b : Int) : eqD (.int .i64) a b = (a == b) := rfl
theorem mget_mput {β : Type} (k k' : Int) (v : β) : ∀ l : List (Int × β), mget (eqD (.int .i64)) k' (mput (eqD (.int .i64)) k v l) = if k' = k then some v else mget (eqD (.int .i64)) k' l
  | [] => by
    by_cases h : k' = k
    · subst h
      simp only [mput, mget, eqI, beq_self_eq_true, if_true]
    · have e : eqD (.int .i64) k' k = false := by rw [eqI]; exact beq_false_of_ne h
      simp only [mput, mget, e, if_neg h]
  | p :: l => by
    have ih := mget_mput k k' v l
    by_cases h1 : k = p.1
    · have e1 : eqD (.int .i64) k p.1 = true := by rw [h1, eqI]; exact beq_self_eq_true _
      simp only [mput, mget, e1]
      by_cases h : k' = k
      · have e2 : eqD (.int .i64) k' k = true := by rw [h, eqI]; exact beq_self_eq_true _
        rw [e2, if_pos h]
      · have e2 : eqD (.int .i64) k' k = false := by rw [eqI]; exact beq_false_of_ne h
        have e3 : eqD (.int .i64) k' p.1 = false := by rw [← h1]; exact e2
        rw [e2, e3, if_neg h]
    · have e1 : eqD (.int .i64) k p.1 = false := by rw [eqI]; exact beq_false_of_ne h1
      simp only [mput, e1, mget]
      by_cases h2 : k' = p.1
      · have e2 : eqD (.int .i64) k' p.1 = true := by rw [h2, eqI]; exact beq_self_eq_true _
        rw [e2, if_neg (fun e => h1 (e.symm.trans h2))]
      · have e2 : eqD (.int .i64) k' p.1 = false := by rw [eqI]; exact beq_false_of_ne h2
        rw [e2]
        exact ih
theorem take_rev {l : List Ev} {i : Nat} (h : i < l.length) : (l.take (i + 1)).reverse = l.getD i z0 :: (l.take i).reverse := by
  rw [List.take_add_one, List.reverse_append, List.getD_eq_getElem?_getD, List.getElem?_eq_getElem h]
  simp
theorem bump_len (b : List Int) (i : Nat) : (bump b i).length = b.length := by simp [bump]
theorem cnt_len (b : List Int) (a : Option Int) (to : Int) : (cnt b a to).length = b.length := by
  unfold cnt
  split
  · split
    · exact bump_len _ _
    · rfl
  · rfl
/-- The bucket of a time. -/
theorem bucket45 (n : Nat) {D : Nat} (hD : D < 9223372036854775808) : f45 (n + 2) D = some ((lenOf D : Int), 0) := by
  rw [f45_eq, decide_eq_false (show ¬ (D : Int) < 0 by omega), wU (n := (D : Int)) (by omega) (by omega), len_go n (by omega)]
  rfl
theorem bucket93_loop (n : Nat) : ∀ (D b m : Nat), D < 9223372036854775808 → lenOf D < m → b + lenOf D ≤ 64 → f93_4 n m D b = some ((b + lenOf D : Nat) : Int) := by
  intro D
  induction D using Nat.strongRecOn with
  | ind D ih =>
    intro b m hD hm hb
    obtain ⟨m, rfl⟩ : ∃ q, m = q + 1 := ⟨m - 1, by omega⟩
    rw [f93_4_eq]
    by_cases h0 : D = 0
    · subst h0
      rw [decide_eq_false (show ¬ ((0 : Nat) : Int) > 0 by omega), show lenOf 0 = 0 from rfl]
      rfl
    · have hlen : lenOf D = lenOf (D / 2) + 1 := by
        by_cases h1 : D / 2 = 0
        · obtain rfl : D = 1 := by omega
          decide
        · have := len_shift (X := D) (s := 1) (by rw [Nat.pow_one]; exact h1)
          rw [Nat.pow_one] at this
          exact this
      have hb64 : lenOf D ≤ 63 := len_le hD
      rw [decide_eq_true (show (D : Int) > 0 by omega), show (2 : Int) = ((2 : Nat) : Int) from rfl, ← Int.ofNat_tdiv, wI (n := ((D / 2 : Nat) : Int)) (by omega) (by omega), wI (n := (b : Int) + 1) (by omega) (by omega)]
      simp only [cond_true]
      have := ih (D / 2) (by omega) (b + 1) m (by omega) (by omega) (by omega)
      rw [show ((b + 1 : Nat) : Int) = (b : Int) + 1 by omega] at this
      rw [this, show b + 1 + lenOf (D / 2) = b + lenOf D by omega]
theorem bucket93 {n : Nat} (hn : 65 ≤ n) {D : Nat} (hD : D < 9223372036854775808) : f93 n D = some (lenOf D : Int) := by
  have hb64 : lenOf D ≤ 63 := len_le hD
  rw [f93_eq]
  have := bucket93_loop n D 0 n hD (by omega) (by omega)
  simpa using this
/-- The document's last event of a kind and number. -/
theorem last_loop (n : Nat) {l : List Ev} (hl : l.length ≤ 2000) (kind k : Int) (c : Bool) : ∀ (j m : Nat), j ≤ l.length → j < m →
    f84_4 n m l kind k c ((j : Int) - 1) = some (match lastF c kind k (l.take j).reverse with | some a => (a, true) | none => (0, false)) := by
  intro j
  induction j with
  | zero =>
    intro m _ hm
    obtain ⟨m, rfl⟩ : ∃ q, m = q + 1 := ⟨m - 1, by omega⟩
    rw [f84_4_eq]
    rfl
  | succ j ih =>
    intro m hj hm
    obtain ⟨m, rfl⟩ : ∃ q, m = q + 1 := ⟨m - 1, by omega⟩
    have ihm := ih m (by omega) (by omega)
    rw [f84_4_eq, take_rev (by omega), show ((j + 1 : Nat) : Int) - 1 = (j : Int) by omega, decide_eq_true (show (j : Int) ≥ 0 by omega), decide_eq_true (show (0 : Int) ≤ (j : Int) ∧ (j : Int) < (l.length : Int) by omega), wI (n := (j : Int) - 1) (by omega) (by omega)]
    simp only [cond_true, Int.toNat_natCast, lastF]
    generalize List.getD l j z0 = e at *
    by_cases h1 : e.2.1 = kind
    · rw [h1, beq_self_eq_true]
      cases c with
      | true =>
        simp only [cond_true, Bool.not_true, cond_false, num]
        by_cases h2 : e.2.2.2.1 = k
        · rw [h2, beq_self_eq_true, if_pos (by simp)]; rfl
        · rw [beq_false_of_ne h2, if_neg (fun h => h2 h.2)]
          exact ihm
      | false =>
        simp only [cond_true, Bool.not_false, cond_false, num]
        by_cases h2 : e.2.2.2.2.1 = k
        · rw [h2, beq_self_eq_true, if_pos (by simp)]; rfl
        · rw [beq_false_of_ne h2, if_neg (fun h => h2 h.2)]
          exact ihm
    · rw [beq_false_of_ne h1, if_neg (fun h => h1 h.1)]
      exact ihm
theorem last_go {n : Nat} {l : List Ev} (hl : l.length ≤ 2000) (hn : 2001 ≤ n) (kind k : Int) (c : Bool) {i : Nat} (hi : i ≤ l.length) :
    f84 n l i kind k c = some (match lastF c kind k (l.take i).reverse with | some a => (a, true) | none => (0, false)) := by
  rw [f84_eq, wI (n := (i : Int) - 1) (by omega) (by omega)]
  exact last_loop n hl kind k c i n hi (by omega)
theorem count_go {n : Nat} (hn : 65 ≤ n) {b : List Int} (r : Option Int) (to : Int) :
    f85 n b (match r with | some a => (a, true) | none => ((0 : Int), false)).1 to (match r with | some a => (a, true) | none => ((0 : Int), false)).2 = some (cnt b r to) := by
  rw [f85_eq]
  cases r with
  | none => rfl
  | some a =>
    simp only [cond_true, cnt]
    by_cases h1 : 0 ≤ a
    · rw [decide_eq_true (show a ≥ 0 from h1)]
      by_cases h2 : a ≤ to
      · rw [decide_eq_true (show to ≥ a from h2)]
        by_cases h3 : to ≤ 4611686018427387904
        · rw [decide_eq_true h3, if_pos ⟨h1, h2, h3⟩, wI (n := to - a) (by omega) (by omega)]
          have hd : to - a = (((to - a).toNat : Nat) : Int) := by omega
          have hlt : (to - a).toNat < 9223372036854775808 := by omega
          generalize (to - a).toNat = D at *
          have hl : lenOf D ≤ 63 := len_le hlt
          rw [hd, bucket93 hn hlt]
          simp only [Option.bind_some, cond_true]
          rw [decide_eq_true (show (0 : Int) ≤ (lenOf D : Int) ∧ (lenOf D : Int) < ((64 : Nat) : Int) by omega)]
          rfl
        · rw [decide_eq_false h3, if_neg (fun h => h3 h.2.2)]; rfl
      · rw [decide_eq_false (show ¬ to ≥ a from h2), if_neg (fun h => h2 h.2.1)]; rfl
    · rw [decide_eq_false (show ¬ a ≥ 0 from h1), if_neg (fun h => h1 h.1)]; rfl
theorem prog_81a {n : Nat} (hn : 2 ≤ n) {l : List Ev} (hl : l.length ≤ 2000) (b8 : List Int) : ∀ (k i m : Nat) (b : List Int) (mp : List (Int × Int)), i + k = l.length → k < m → b.length = 64 → (∀ q, mget (eqD (.int .i64)) q mp = lastF true 1 q (l.take i).reverse) →
    f81a_8 n m 1 4 () l l.length i b8 b mp = some (walk true 1 4 (l.take i).reverse (l.drop i) b) := by
  intro k
  induction k with
  | zero =>
    intro i m b mp hi hm hb hq
    obtain ⟨m, rfl⟩ : ∃ q, m = q + 1 := ⟨m - 1, by omega⟩
    rw [f81a_8_eq, decide_eq_false (show ¬ (i : Int) < (l.length : Int) by omega), List.drop_of_length_le (by omega)]
    rfl
  | succ k ih =>
    intro i m b mp hi hm hb hq
    obtain ⟨m, rfl⟩ : ∃ q, m = q + 1 := ⟨m - 1, by omega⟩
    have hi' : i < l.length := by omega
    have ihm := ih (i + 1) m
    rw [take_rev hi', show ((i + 1 : Nat) : Int) = (i : Int) + 1 by omega] at ihm
    rw [f81a_8_eq, getD_drop (d := z0) hi', decide_eq_true (show (i : Int) < (l.length : Int) by omega), decide_eq_true (show (0 : Int) ≤ (i : Int) ∧ (i : Int) < (l.length : Int) by omega), f82_eq, wI (n := (i : Int) + 1) (by omega) (by omega)]
    simp only [cond_true, Int.toNat_natCast, Option.bind_some, walk, hq]
    have hnum : ∀ e : Ev, num true e = e.2.2.2.1 := fun _ => rfl
    generalize List.getD l i z0 = e at *
    by_cases h1 : e.2.1 = 1
    · rw [h1, beq_self_eq_true, if_neg (by decide)]
      refine ihm b _ (by omega) (by omega) hb fun q => ?_
      rw [mget_mput, hq]
      simp only [lastF, hnum, h1, true_and]
      by_cases h2 : q = e.2.2.2.1
      · rw [if_pos h2, if_pos h2.symm]
      · rw [if_neg h2, if_neg (fun h => h2 h.symm)]
    · have hq' : ∀ q, mget (eqD (.int .i64)) q mp = lastF true 1 q (e :: (l.take i).reverse) := fun q => by
        rw [hq]
        simp only [lastF]
        rw [if_neg (fun h => h1 h.1)]
      rw [beq_false_of_ne h1]
      by_cases h2 : e.2.1 = 4
      · rw [h2, beq_self_eq_true, if_pos rfl, hnum]
        simp only [cond_true, cond_false]
        cases hL : lastF true 1 e.2.2.2.1 (l.take i).reverse with
        | none => exact ihm b mp (by omega) (by omega) hb hq'
        | some a =>
          simp only [Option.isSome_some, cond_true, Option.getD_some, is_go, Option.bind_some, isT, cnt]
          by_cases h3 : 0 ≤ a ∧ a ≤ e.1 ∧ e.1 ≤ 4611686018427387904
          · obtain ⟨ha, hb2, hc⟩ := h3
            rw [decide_eq_true (show 0 ≤ a ∧ a ≤ 4611686018427387904 by omega), decide_eq_true (show 0 ≤ e.1 ∧ e.1 ≤ 4611686018427387904 by omega), decide_eq_true (show e.1 ≥ a from hb2), if_pos ⟨ha, hb2, hc⟩, wI (n := e.1 - a) (by omega) (by omega)]
            have hd : e.1 - a = (((e.1 - a).toNat : Nat) : Int) := by omega
            have hlt : (e.1 - a).toNat < 9223372036854775808 := by omega
            generalize (e.1 - a).toNat = D at *
            have hle : lenOf D ≤ 63 := len_le hlt
            obtain ⟨n', rfl⟩ : ∃ q, n = q + 2 := ⟨n - 2, by omega⟩
            rw [hd, bucket45 n' hlt]
            simp only [Option.bind_some, cond_true]
            rw [decide_eq_true (show (0 : Int) ≤ (lenOf D : Int) ∧ (lenOf D : Int) < ((64 : Nat) : Int) by omega)]
            simp only [cond_true, Int.toNat_natCast]
            exact ihm (bump b (lenOf D)) mp (by omega) (by omega) (by rw [bump_len]; exact hb) hq'
          · rw [if_neg h3]
            by_cases h4 : 0 ≤ a ∧ a ≤ 4611686018427387904
            · rw [decide_eq_true h4]
              by_cases h5 : 0 ≤ e.1 ∧ e.1 ≤ 4611686018427387904
              · rw [decide_eq_true h5, decide_eq_false (show ¬ e.1 ≥ a by omega)]
                exact ihm b mp (by omega) (by omega) hb hq'
              · rw [decide_eq_false h5]
                exact ihm b mp (by omega) (by omega) hb hq'
            · rw [decide_eq_false h4]
              exact ihm b mp (by omega) (by omega) hb hq'
      · rw [beq_false_of_ne h2, if_neg h2]
        exact ihm b mp (by omega) (by omega) hb hq'
theorem ref_52 {n : Nat} (hn : 2001 ≤ n) {l : List Ev} (hl : l.length ≤ 2000) (b2 : List Int) : ∀ (k i m : Nat) (b : List Int), i + k = l.length → k < m →
    f52_6 n m l l l.length i b2 b = some (walk true 1 4 (l.take i).reverse (l.drop i) b) := by
  intro k
  induction k with
  | zero =>
    intro i m b hi hm
    obtain ⟨m, rfl⟩ : ∃ q, m = q + 1 := ⟨m - 1, by omega⟩
    rw [f52_6_eq, decide_eq_false (show ¬ (i : Int) < (l.length : Int) by omega), List.drop_of_length_le (by omega)]
    rfl
  | succ k ih =>
    intro i m b hi hm
    obtain ⟨m, rfl⟩ : ∃ q, m = q + 1 := ⟨m - 1, by omega⟩
    have hi' : i < l.length := by omega
    have ihm := ih (i + 1) m
    rw [take_rev hi', show ((i + 1 : Nat) : Int) = (i : Int) + 1 by omega] at ihm
    rw [f52_6_eq, getD_drop (d := z0) hi', decide_eq_true (show (i : Int) < (l.length : Int) by omega), decide_eq_true (show (0 : Int) ≤ (i : Int) ∧ (i : Int) < (l.length : Int) by omega), wI (n := (i : Int) + 1) (by omega) (by omega), last_go hl hn _ _ _ (i := i) (by omega)]
    simp only [cond_true, Int.toNat_natCast, Option.bind_some, walk, count_go (n := n) (by omega)]
    have hnum : ∀ e : Ev, num true e = e.2.2.2.1 := fun _ => rfl
    generalize List.getD l i z0 = e at *
    by_cases h2 : e.2.1 = 4
    · rw [h2, beq_self_eq_true, if_pos rfl, hnum]
      exact ihm _ (by omega) (by omega)
    · rw [beq_false_of_ne h2, if_neg h2]
      exact ihm b (by omega) (by omega)
theorem prog_81b {n : Nat} (hn : 2 ≤ n) {l : List Ev} (hl : l.length ≤ 2000) (b8 : List Int) : ∀ (k i m : Nat) (b : List Int) (mp : List (Int × Int)), i + k = l.length → k < m → b.length = 64 → (∀ q, mget (eqD (.int .i64)) q mp = lastF false 2 q (l.take i).reverse) →
    f81b_8 n m 2 5 () l l.length i b8 b mp = some (walk false 2 5 (l.take i).reverse (l.drop i) b) := by
  intro k
  induction k with
  | zero =>
    intro i m b mp hi hm hb hq
    obtain ⟨m, rfl⟩ : ∃ q, m = q + 1 := ⟨m - 1, by omega⟩
    rw [f81b_8_eq, decide_eq_false (show ¬ (i : Int) < (l.length : Int) by omega), List.drop_of_length_le (by omega)]
    rfl
  | succ k ih =>
    intro i m b mp hi hm hb hq
    obtain ⟨m, rfl⟩ : ∃ q, m = q + 1 := ⟨m - 1, by omega⟩
    have hi' : i < l.length := by omega
    have ihm := ih (i + 1) m
    rw [take_rev hi', show ((i + 1 : Nat) : Int) = (i : Int) + 1 by omega] at ihm
    rw [f81b_8_eq, getD_drop (d := z0) hi', decide_eq_true (show (i : Int) < (l.length : Int) by omega), decide_eq_true (show (0 : Int) ≤ (i : Int) ∧ (i : Int) < (l.length : Int) by omega), f83_eq, wI (n := (i : Int) + 1) (by omega) (by omega)]
    simp only [cond_true, Int.toNat_natCast, Option.bind_some, walk, hq]
    have hnum : ∀ e : Ev, num false e = e.2.2.2.2.1 := fun _ => rfl
    generalize List.getD l i z0 = e at *
    by_cases h1 : e.2.1 = 2
    · rw [h1, beq_self_eq_true, if_neg (by decide)]
      refine ihm b _ (by omega) (by omega) hb fun q => ?_
      rw [mget_mput, hq]
      simp only [lastF, hnum, h1, true_and]
      by_cases h2 : q = e.2.2.2.2.1
      · rw [if_pos h2, if_pos h2.symm]
      · rw [if_neg h2, if_neg (fun h => h2 h.symm)]
    · have hq' : ∀ q, mget (eqD (.int .i64)) q mp = lastF false 2 q (e :: (l.take i).reverse) := fun q => by
        rw [hq]
        simp only [lastF]
        rw [if_neg (fun h => h1 h.1)]
      rw [beq_false_of_ne h1]
      by_cases h2 : e.2.1 = 5
      · rw [h2, beq_self_eq_true, if_pos rfl, hnum]
        simp only [cond_true, cond_false]
        cases hL : lastF false 2 e.2.2.2.2.1 (l.take i).reverse with
        | none => exact ihm b mp (by omega) (by omega) hb hq'
        | some a =>
          simp only [Option.isSome_some, cond_true, Option.getD_some, is_go, Option.bind_some, isT, cnt]
          by_cases h3 : 0 ≤ a ∧ a ≤ e.1 ∧ e.1 ≤ 4611686018427387904
          · obtain ⟨ha, hb2, hc⟩ := h3
            rw [decide_eq_true (show 0 ≤ a ∧ a ≤ 4611686018427387904 by omega), decide_eq_true (show 0 ≤ e.1 ∧ e.1 ≤ 4611686018427387904 by omega), decide_eq_true (show e.1 ≥ a from hb2), if_pos ⟨ha, hb2, hc⟩, wI (n := e.1 - a) (by omega) (by omega)]
            have hd : e.1 - a = (((e.1 - a).toNat : Nat) : Int) := by omega
            have hlt : (e.1 - a).toNat < 9223372036854775808 := by omega
            generalize (e.1 - a).toNat = D at *
            have hle : lenOf D ≤ 63 := len_le hlt
            obtain ⟨n', rfl⟩ : ∃ q, n = q + 2 := ⟨n - 2, by omega⟩
            rw [hd, bucket45 n' hlt]
            simp only [Option.bind_some, cond_true]
            rw [decide_eq_true (show (0 : Int) ≤ (lenOf D : Int) ∧ (lenOf D : Int) < ((64 : Nat) : Int) by omega)]
            simp only [cond_true, Int.toNat_natCast]
            exact ihm (bump b (lenOf D)) mp (by omega) (by omega) (by rw [bump_len]; exact hb) hq'
          · rw [if_neg h3]
            by_cases h4 : 0 ≤ a ∧ a ≤ 4611686018427387904
            · rw [decide_eq_true h4]
              by_cases h5 : 0 ≤ e.1 ∧ e.1 ≤ 4611686018427387904
              · rw [decide_eq_true h5, decide_eq_false (show ¬ e.1 ≥ a by omega)]
                exact ihm b mp (by omega) (by omega) hb hq'
              · rw [decide_eq_false h5]
                exact ihm b mp (by omega) (by omega) hb hq'
            · rw [decide_eq_false h4]
              exact ihm b mp (by omega) (by omega) hb hq'
      · rw [beq_false_of_ne h2, if_neg h2]
        exact ihm b mp (by omega) (by omega) hb hq'
theorem ref_53 {n : Nat} (hn : 2001 ≤ n) {l : List Ev} (hl : l.length ≤ 2000) (b2 : List Int) : ∀ (k i m : Nat) (b : List Int), i + k = l.length → k < m →
    f53_6 n m l l l.length i b2 b = some (walk false 2 5 (l.take i).reverse (l.drop i) b) := by
  intro k
  induction k with
  | zero =>
    intro i m b hi hm
    obtain ⟨m, rfl⟩ : ∃ q, m = q + 1 := ⟨m - 1, by omega⟩
    rw [f53_6_eq, decide_eq_false (show ¬ (i : Int) < (l.length : Int) by omega), List.drop_of_length_le (by omega)]
    rfl
  | succ k ih =>
    intro i m b hi hm
    obtain ⟨m, rfl⟩ : ∃ q, m = q + 1 := ⟨m - 1, by omega⟩
    have hi' : i < l.length := by omega
    have ihm := ih (i + 1) m
    rw [take_rev hi', show ((i + 1 : Nat) : Int) = (i : Int) + 1 by omega] at ihm
    rw [f53_6_eq, getD_drop (d := z0) hi', decide_eq_true (show (i : Int) < (l.length : Int) by omega), decide_eq_true (show (0 : Int) ≤ (i : Int) ∧ (i : Int) < (l.length : Int) by omega), wI (n := (i : Int) + 1) (by omega) (by omega), last_go hl hn _ _ _ (i := i) (by omega)]
    simp only [cond_true, Int.toNat_natCast, Option.bind_some, walk, count_go (n := n) (by omega)]
    have hnum : ∀ e : Ev, num false e = e.2.2.2.2.1 := fun _ => rfl
    generalize List.getD l i z0 = e at *
    by_cases h2 : e.2.1 = 5
    · rw [h2, beq_self_eq_true, if_pos rfl, hnum]
      exact ihm _ (by omega) (by omega)
    · rw [beq_false_of_ne h2, if_neg h2]
      exact ihm b (by omega) (by omega)
/-- Buckets without any. -/
theorem len_walk (c : Bool) (kf kt : Int) : ∀ (r prev : List Ev) (b : List Int), (walk c kf kt prev r b).length = b.length
  | [], _, _ => rfl
  | e :: r, prev, b => by
    simp only [walk]
    rw [len_walk c kf kt r]
    split
    · exact cnt_len _ _ _
    · rfl
theorem add_loop (n : Nat) {a b : List Int} (b4 : List Int) : ∀ (k i m : Nat) (c : List Int), i + k = 64 → k < m → c.length = 64 → (∀ j, j < 64 → c.getD j 0 = if j < i then IntKind.i64.wrap (a.getD j 0 + b.getD j 0) else a.getD j 0) →
    ∃ r, f51_4 n m b i c b4 = some r ∧ ∀ j, j < 64 → r.getD j 0 = IntKind.i64.wrap (a.getD j 0 + b.getD j 0) := by
  intro k
  induction k with
  | zero =>
    intro i m c hi hm hc hj
    obtain ⟨m, rfl⟩ : ∃ q, m = q + 1 := ⟨m - 1, by omega⟩
    rw [f51_4_eq, decide_eq_false (show ¬ (i : Int) < 64 by omega)]
    refine ⟨c, rfl, fun j h => ?_⟩
    rw [hj j h, if_pos (by omega)]
  | succ k ih =>
    intro i m c hi hm hc hj
    obtain ⟨m, rfl⟩ : ∃ q, m = q + 1 := ⟨m - 1, by omega⟩
    rw [f51_4_eq, decide_eq_true (show (i : Int) < 64 by omega), decide_eq_true (show (0 : Int) ≤ (i : Int) ∧ (i : Int) < ((64 : Nat) : Int) by omega), wI (n := (i : Int) + 1) (by omega) (by omega)]
    simp only [cond_true, Int.toNat_natCast]
    have := ih (i + 1) m (c.set i (IntKind.i64.wrap (c.getD i 0 + b.getD i 0))) (by omega) (by omega) (by simpa using hc) (by
      intro j h
      rw [List.getD_eq_getElem?_getD, List.getElem?_set]
      by_cases hij : i = j
      · subst hij
        rw [if_pos rfl, if_pos (by omega), if_pos (by omega), hj i h, if_neg (by omega)]
        rfl
      · rw [if_neg hij, ← List.getD_eq_getElem?_getD, hj j h]
        by_cases h2 : j < i
        · rw [if_pos h2, if_pos (by omega)]
        · rw [if_neg h2, if_neg (by omega)])
    rw [show ((i + 1 : Nat) : Int) = (i : Int) + 1 by omega] at this
    exact this
theorem given_loop (n : Nat) {l : List Ev} (hl : l.length ≤ 2000) : ∀ (k i m : Nat), i + k = l.length → k < m → f19_6 n m l l.length i (l.take i) = some l := by
  intro k
  induction k with
  | zero =>
    intro i m hi hm
    obtain ⟨m, rfl⟩ : ∃ q, m = q + 1 := ⟨m - 1, by omega⟩
    rw [f19_6_eq, decide_eq_false (show ¬ (i : Int) < (l.length : Int) by omega), List.take_of_length_le (by omega)]
    rfl
  | succ k ih =>
    intro i m hi hm
    obtain ⟨m, rfl⟩ : ∃ q, m = q + 1 := ⟨m - 1, by omega⟩
    have hi' : i < l.length := by omega
    rw [f19_6_eq, decide_eq_true (show (i : Int) < (l.length : Int) by omega), decide_eq_true (show (0 : Int) ≤ (i : Int) ∧ (i : Int) < (l.length : Int) by omega), wI (n := (i : Int) + 1) (by omega) (by omega)]
    have hlen : (l.take i).length = i := by simp; omega
    simp only [cond_true, Int.toNat_natCast, hlen, List.length_singleton]
    rw [decide_eq_true (show (i + 1) * 112 ≤ Go.Rf.maxBytes by show (i + 1) * 112 ≤ 140737488355328; omega)]
    have e : l.take i ++ [l.getD i z0] = l.take (i + 1) := by
      rw [List.take_add_one, List.getD_eq_getElem?_getD, List.getElem?_eq_getElem hi']
      simp
    have := ih (i + 1) m (by omega) (by omega)
    rw [show ((i + 1 : Nat) : Int) = (i : Int) + 1 by omega, ← e] at this
    exact this
theorem given_go {n : Nat} {l : List Ev} (hl : l.length ≤ 2000) (hn : 2001 ≤ n) : f19 n l = some l := by
  rw [f19_eq]
  exact given_loop n hl l.length 0 n (by omega) (by omega)
theorem few_go (n : Nat) (l : List Ev) : ∃ k : List Ev, f16 n l = some k ∧ k.length ≤ 2000 ∧ ∀ x ∈ k, x ∈ l := by
  rw [f16_eq]
  by_cases h : (l.length : Int) > 2000
  · rw [decide_eq_true h, decide_eq_true (show (0 : Int) ≤ 0 ∧ (0 : Int) ≤ 2000 ∧ (2000 : Int) ≤ (l.length : Int) by omega)]
    exact ⟨_, rfl, by simp; omega, fun x hx => List.mem_of_mem_take (by simpa using hx)⟩
  · rw [decide_eq_false h]
    exact ⟨l, rfl, by omega, fun x hx => hx⟩
theorem eqL_refl : ∀ l : List Int, eqL (eqD (.int .i64)) l l = true
  | [] => rfl
  | x :: l => by
    show (x == x && eqL (eqD (.int .i64)) l l) = true
    rw [eqL_refl l]
    simp
theorem check_loop (n : Nat) (l : List Ev) {a b c : List Int} (hc : ∀ j, j < 64 → c.getD j 0 = IntKind.i64.wrap (a.getD j 0 + b.getD j 0)) (T : Option Bool)
    (hT : ∀ m, f10_10 n (m + 1) l false ((64 : Nat) : Int) a b c = T) : ∀ (k i m : Nat), i + k = 64 → k < m → f10_10 n m l false i a b c = T := by
  intro k
  induction k with
  | zero =>
    intro i m hi hm
    obtain ⟨m, rfl⟩ : ∃ q, m = q + 1 := ⟨m - 1, by omega⟩
    obtain rfl : i = 64 := by omega
    exact hT m
  | succ k ih =>
    intro i m hi hm
    obtain ⟨m, rfl⟩ : ∃ q, m = q + 1 := ⟨m - 1, by omega⟩
    rw [f10_10_eq, decide_eq_true (show (i : Int) < 64 by omega), decide_eq_true (show (0 : Int) ≤ (i : Int) ∧ (i : Int) < ((64 : Nat) : Int) by omega), wI (n := (i : Int) + 1) (by omega) (by omega)]
    simp only [cond_true, Int.toNat_natCast, hc i (by omega), bne_self_eq_false, cond_false]
    have := ih (i + 1) m (by omega) (by omega)
    rw [show ((i + 1 : Nat) : Int) = (i : Int) + 1 by omega] at this
    exact this
theorem tally_times {n : Nat} (hn : 2100 ≤ n) (l : List Ev) : f10 n l = some true := by
  obtain ⟨k, hk, hlen, _⟩ := few_go n l
  have haw : f20 n = some true := by
    obtain ⟨q, rfl⟩ : ∃ q, n = q + 8 := ⟨n - 8, by omega⟩
    exact awake_tally q
  have p1 : ∀ b8 b : List Int, b.length = 64 → f81a_8 n n 1 4 () k k.length 0 b8 b [] = some (walk true 1 4 [] k b) := fun b8 b hb => prog_81a (n := n) (by omega) hlen b8 k.length 0 n b [] (by omega) (by omega) hb (fun _ => rfl)
  have p2 : ∀ b8 b : List Int, b.length = 64 → f81b_8 n n 2 5 () k k.length 0 b8 b [] = some (walk false 2 5 [] k b) := fun b8 b hb => prog_81b (n := n) (by omega) hlen b8 k.length 0 n b [] (by omega) (by omega) hb (fun _ => rfl)
  have r1 : ∀ b2 b : List Int, f52_6 n n k k k.length 0 b2 b = some (walk true 1 4 [] k b) := fun b2 b => ref_52 (n := n) (by omega) hlen b2 k.length 0 n b (by omega) (by omega)
  have r2 : ∀ b2 b : List Int, f53_6 n n k k k.length 0 b2 b = some (walk false 2 5 [] k b) := fun b2 b => ref_53 (n := n) (by omega) hlen b2 k.length 0 n b (by omega) (by omega)
  obtain ⟨Z, hZ, hw1, hw2, hr1, hr2⟩ : ∃ Z : List Int, Z.length = 64 ∧ f49 n k = some (walk true 1 4 [] k Z) ∧ f50 n k = some (walk false 2 5 [] k Z) ∧ f52 n k = some (walk true 1 4 [] k Z) ∧ f53 n k = some (walk false 2 5 [] k Z) := by
    refine ⟨List.replicate 64 0, by simp, ?_, ?_, ?_, ?_⟩
    · rw [f49_eq, f81a_eq]
      exact congrArg (fun x => Option.bind x fun r1 => some r1) (p1 (List.replicate 64 0) (List.replicate 64 0) (by simp))
    · rw [f50_eq, f81b_eq]
      exact congrArg (fun x => Option.bind x fun r1 => some r1) (p2 (List.replicate 64 0) (List.replicate 64 0) (by simp))
    · rw [f52_eq]
      exact r1 (List.replicate 64 0) (List.replicate 64 0)
    · rw [f53_eq]
      exact r2 (List.replicate 64 0) (List.replicate 64 0)
  have hA := len_walk true 1 4 k [] Z
  generalize walk true 1 4 [] k Z = A at *
  generalize walk false 2 5 [] k Z = B at *
  rw [f10_eq, hk]
  simp only [Option.bind_some]
  rw [hw1, hw2]
  simp only [Option.bind_some]
  rw [f51_eq]
  obtain ⟨c, hc, hcj⟩ := add_loop n (a := A) (b := B) _ 64 0 n A (by omega) (by omega) (by omega) (fun j hj => by rw [if_neg (by omega)])
  rw [show ((0 : Nat) : Int) = 0 from rfl] at hc
  rw [hc]
  simp only [Option.bind_some]
  have := check_loop n k hcj (some true) (fun m => by
    rw [f10_10_eq, decide_eq_false (show ¬ ((64 : Nat) : Int) < 64 by omega), haw, given_go hlen (by omega)]
    simp only [cond_false, cond_true, Option.bind_some]
    rw [hr1, hr2]
    simp only [Option.bind_some]
    exact congrArg (fun x : Bool × Bool => bif x.1 then some x.2 else some false) (Prod.ext (eqL_refl A) (eqL_refl B) : (eqL (eqD (.int .i64)) A A, eqL (eqD (.int .i64)) B B) = (true, true))) 64 0 n (by omega) (by omega)
  exact this
end Go.Proofs.Ytnlnfmakcnadlaa
