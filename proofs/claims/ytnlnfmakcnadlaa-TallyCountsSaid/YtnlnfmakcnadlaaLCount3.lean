/- All counts of events, 3: unlike keys, two tallies together, the law. -/
import Derived.Test.YtnlnfmakcnadlaaLCount2
namespace Go.Proofs.Ytnlnfmakcnadlaa
open Go.Rf
abbrev k0 : Ky := (0, ByteArray.empty)
theorem take_snocK {l : List Ky} {i : Nat} (h : i < l.length) : l.take (i + 1) = l.take i ++ [l.getD i k0] := by
  rw [List.take_add_one, List.getD_eq_getElem?_getD, List.getElem?_eq_getElem h]
  simp
theorem foldl_ins_len : ∀ (ks acc : List Ky), (ks.foldl ins acc).length ≤ acc.length + ks.length
  | [], _ => Nat.le_refl _
  | k :: ks, acc => by
    have := foldl_ins_len ks (ins acc k)
    have h : (ins acc k).length ≤ acc.length + 1 := by
      unfold ins
      split
      · omega
      · simp
    simp only [List.foldl_cons, List.length_cons]
    omega
theorem known_any (b : Ky) (L : List Ky) : (L.any fun y => y.1 == b.1 && y.2 == b.2) = true ↔ b ∈ L := by
  rw [List.any_eq_true]
  constructor
  · rintro ⟨x, hx, h⟩
    have : x = b := (eqK_iff x b).1 h
    exact this ▸ hx
  · intro h
    exact ⟨b, h, (eqK_iff b b).2 rfl⟩
/-- Is it known? -/
theorem known_loop (n : Nat) (l : List Ky) {i : Nat} (hi : i < 2000) (b : Ky) (L : List Ky) (hL : L.length ≤ 2000) {m : Nat} (hm : 2001 ≤ m) :
    ∃ m', m ≤ m' + 2001 ∧ f92_14 n m false l l.length i L.length 0 b L = f92_6 n m' l l.length ((i + 1 : Nat) : Int) (ins L b) := by
  obtain ⟨s, m1, h1, h2, h3⟩ := loopN (G := fun m j (kn : Bool) => f92_14 n m kn l l.length i L.length j b L) (I := fun j kn => kn = (L.take j).any fun y => y.1 == b.1 && y.2 == b.2) (len := L.length) (c := 1)
    (by
      intro m j kn hj hI hm
      obtain ⟨m, rfl⟩ : ∃ q, m = q + 1 := ⟨m - 1, by omega⟩
      refine ⟨_, m, rfl, by omega, ?_⟩
      show f92_14 n (m + 1) kn l l.length i L.length j b L = _
      rw [f92_14_eq, decide_eq_true (show (j : Int) < (L.length : Int) by omega), decide_eq_true (show (0 : Int) ≤ (j : Int) ∧ (j : Int) < (L.length : Int) by omega), wI (n := (j : Int) + 1) (by omega) (by omega), take_snocK hj, List.any_append, ← hI]
      cases kn with
      | true => rfl
      | false =>
        simp only [cond_true, cond_false, Bool.false_or, List.any_cons, List.any_nil, Bool.or_false]
        rfl)
    L.length 0 m false (by omega) (by rw [List.take_zero]; rfl) (by omega)
  obtain ⟨m1, rfl⟩ : ∃ q, m1 = q + 1 := ⟨m1 - 1, by omega⟩
  rw [show ((0 : Nat) : Int) = 0 from rfl] at h3
  refine ⟨m1, by omega, h3.trans ?_⟩
  rw [List.take_length] at h1
  show f92_14 n (m1 + 1) s l l.length i L.length (L.length : Nat) b L = _
  rw [f92_14_eq, decide_eq_false (show ¬ (L.length : Int) < (L.length : Int) by omega), wI (n := (i : Int) + 1) (by omega) (by omega), cond_false]
  unfold ins
  by_cases hb : b ∈ L
  · rw [h1, (known_any b L).2 hb, if_pos hb]
    rfl
  · have hs : s = false := by
      cases hq : s with
      | false => rfl
      | true => exact (hb ((known_any b L).1 (h1.symm.trans hq))).elim
    rw [hs, if_neg hb, decide_eq_true (show (L.length + [b].length) * 24 ≤ Go.Rf.maxBytes by show (L.length + 1) * 24 ≤ 140737488355328; omega)]
    rfl
theorem unlike_go {n : Nat} (hn : 4004001 ≤ n) {l : List Ky} (hl : l.length ≤ 2000) : f92 n l = some (l.foldl ins []) := by
  obtain ⟨s, m1, h1, h2, h3⟩ := loopN (G := fun m i (L : List Ky) => f92_6 n m l l.length i L) (I := fun i L => L = (l.take i).foldl ins []) (len := l.length) (c := 2002)
    (by
      intro m i L hi hI hm
      obtain ⟨m, rfl⟩ : ∃ q, m = q + 1 := ⟨m - 1, by omega⟩
      have hL : L.length ≤ 2000 := by
        rw [hI]
        have := foldl_ins_len (l.take i) []
        simp only [List.length_nil, List.length_take] at this
        omega
      obtain ⟨m', h1, h2⟩ := known_loop n l (show i < 2000 by omega) (l.getD i k0) L hL (m := m) (by omega)
      refine ⟨ins L (l.getD i k0), m', ?_, by omega, ?_⟩
      · rw [take_snocK hi, List.foldl_append, hI]
        rfl
      · show f92_6 n (m + 1) l l.length i L = _
        rw [f92_6_eq, decide_eq_true (show (i : Int) < (l.length : Int) by omega), decide_eq_true (show (0 : Int) ≤ (i : Int) ∧ (i : Int) < (l.length : Int) by omega)]
        exact h2)
    l.length 0 n [] (by omega) (by rw [List.take_zero]; rfl) (by
      have : l.length * 2002 ≤ 4004000 := Nat.le_trans (Nat.mul_le_mul_right _ hl) (by decide)
      omega)
  obtain ⟨m1, rfl⟩ : ∃ q, m1 = q + 1 := ⟨m1 - 1, by
    have : l.length * 2002 ≤ 4004000 := Nat.le_trans (Nat.mul_le_mul_right _ hl) (by decide)
    omega⟩
  rw [show ((0 : Nat) : Int) = 0 from rfl] at h3
  rw [f92_eq]
  refine h3.trans ?_
  rw [List.take_length] at h1
  show f92_6 n (m1 + 1) l l.length (l.length : Nat) s = _
  rw [f92_6_eq, decide_eq_false (show ¬ (l.length : Int) < (l.length : Int) by omega), cond_false, h1]
theorem joins_len (es : List Ev) : (joins es).length ≤ es.length := by
  unfold joins
  rw [List.length_map]
  exact List.length_filter_le _ _
theorem keysOf_go {n : Nat} (hn : 4004001 ≤ n) {l : List Ev} (hl : l.length ≤ 2000) : f74 n l = some ((joins l).foldl ins []) := by
  obtain ⟨s, m1, h1, h2, h3⟩ := loopN (G := fun m i (L : List Ky) => f74_6 n m l l.length i L) (I := fun i L => L = joins (l.take i)) (len := l.length) (c := 1)
    (by
      intro m i L hi hI hm
      obtain ⟨m, rfl⟩ : ∃ q, m = q + 1 := ⟨m - 1, by omega⟩
      have hL : L.length ≤ 2000 := by
        rw [hI]
        have := joins_len (l.take i)
        simp only [List.length_take] at this
        omega
      refine ⟨_, m, rfl, by omega, ?_⟩
      show f74_6 n (m + 1) l l.length i L = f74_6 n m l l.length ((i + 1 : Nat) : Int) (joins (l.take (i + 1)))
      rw [f74_6_eq, decide_eq_true (show (i : Int) < (l.length : Int) by omega), decide_eq_true (show (0 : Int) ≤ (i : Int) ∧ (i : Int) < (l.length : Int) by omega), wI (n := (i : Int) + 1) (by omega) (by omega), take_snoc hi]
      have hj : joins (l.take i ++ [l.getD i z0]) = if (l.getD i z0).2.1 = 1 then L ++ [ky (l.getD i z0)] else L := by
        unfold joins
        rw [List.filter_append, List.map_append]
        by_cases hj : (l.getD i z0).2.1 = 1
        · rw [if_pos hj, hI]
          simp only [List.filter_cons, hj, decide_true, if_true, List.filter_nil]
          rfl
        · rw [if_neg hj, hI]
          simp only [List.filter_cons, hj, decide_false, List.filter_nil]
          rw [if_neg (by simp), List.map_nil, List.append_nil]
          rfl
      rw [hj, show List.getD l i z0 = List.getD l (i : Int).toNat z0 from rfl]
      simp only [cond_true]
      generalize List.getD l (i : Int).toNat z0 = e
      by_cases h : e.2.1 = 1
      · rw [if_pos h, h, beq_self_eq_true, cond_true]
        rw [decide_eq_true (show (L.length + [ky e].length) * 24 ≤ Go.Rf.maxBytes by show (L.length + 1) * 24 ≤ 140737488355328; omega), cond_true]
        rfl
      · rw [if_neg h, beq_false_of_ne h, cond_false]
        rfl)
    l.length 0 n [] (by omega) (by rw [List.take_zero]; rfl) (by omega)
  obtain ⟨m1, rfl⟩ : ∃ q, m1 = q + 1 := ⟨m1 - 1, by omega⟩
  rw [show ((0 : Nat) : Int) = 0 from rfl] at h3
  rw [f74_eq]
  refine h3.trans ?_
  rw [List.take_length] at h1
  show f74_6 n (m1 + 1) l l.length (l.length : Nat) s = _
  rw [f74_6_eq, decide_eq_false (show ¬ (l.length : Int) < (l.length : Int) by omega), cond_false, h1, unlike_go hn (Nat.le_trans (joins_len l) hl)]
  rfl
/-! ### lengths -/
theorem stT_len : ∀ (es : List Ev) (t : List Int × List Int × List Int), (stT es t).1.length = t.1.length ∧ (stT es t).2.1.length = t.2.1.length ∧ (stT es t).2.2.length = t.2.2.length
  | [], _ => ⟨rfl, rfl, rfl⟩
  | e :: es, t => by
    have h := stT_len es (bump t.1 (kd e), stepH e t.2.1, stepE e t.2.2)
    have h2 : (stepH e t.2.1).length = t.2.1.length := by
      unfold stepH
      split
      · exact bump_len _ _
      · rfl
    have h3 : (stepE e t.2.2).length = t.2.2.length := by
      unfold stepE
      split
      · exact bump_len _ _
      · rfl
    exact ⟨h.1.trans (bump_len _ _), h.2.1.trans h2, h.2.2.trans h3⟩
/-! ### two together -/
def Sums (len : Nat) (c a b : List Int) : Prop := ∀ j, j < len → c.getD j 0 = IntKind.i64.wrap (a.getD j 0 + b.getD j 0)
/-- What has been added so far. -/
def SumsTo (i : Nat) (c a b : List Int) : Prop := c.length = a.length ∧ ∀ j, c.getD j 0 = if j < i then IntKind.i64.wrap (a.getD j 0 + b.getD j 0) else a.getD j 0
theorem SumsTo.step {i : Nat} {c a b : List Int} (h : SumsTo i c a b) (hi : i < a.length) : SumsTo (i + 1) (c.set i (IntKind.i64.wrap (c.getD i 0 + b.getD i 0))) a b := by
  refine ⟨by simpa using h.1, fun j => ?_⟩
  rw [List.getD_eq_getElem?_getD, List.getElem?_set]
  by_cases hij : i = j
  · subst hij
    rw [if_pos rfl, if_pos (by rw [h.1]; exact hi), if_pos (by omega), h.2 i, if_neg (by omega)]
    rfl
  · rw [if_neg hij, ← List.getD_eq_getElem?_getD, h.2 j]
    by_cases h2 : j < i
    · rw [if_pos h2, if_pos (by omega)]
    · rw [if_neg h2, if_neg (by omega)]
theorem SumsTo.zero (a b : List Int) : SumsTo 0 a a b := ⟨rfl, fun j => by rw [if_neg (by omega)]⟩
theorem SumsTo.sums {len : Nat} {c a b : List Int} (h : SumsTo len c a b) : Sums len c a b := fun j hj => by rw [h.2 j, if_pos hj]
theorem merge_go {n : Nat} (hn : 100 ≤ n) (a b : Tal) (h1 : a.1.length = 12) (h2 : a.2.1.length = 7) (h3 : a.2.2.1.length = 6) :
    ∃ c : Tal, f21 n a b = some c ∧ Sums 12 c.1 a.1 b.1 ∧ Sums 7 c.2.1 a.2.1 b.2.1 ∧ Sums 6 c.2.2.1 a.2.2.1 b.2.2.1 ∧
      c.2.2.2.1 = (if b.2.2.2.1 > a.2.2.2.1 then b.2.2.2.1 else a.2.2.2.1) ∧ c.2.2.2.2 = (if b.2.2.2.2 > a.2.2.2.2 then b.2.2.2.2 else a.2.2.2.2) := by
  obtain ⟨K, H, E, q⟩ := a
  have g1 : ∀ (T : Tal) (m : Nat), 13 ≤ m → ∃ K' m', m ≤ m' + 13 ∧ Sums 12 K' K b.1 ∧ f21_4 n m b.1 0 (K, H, E, q) b T = f21_14 n m' b.2.1 0 (K', H, E, q) b T := by
    intro T m hm
    obtain ⟨s, m1, h4, h5, h6⟩ := loopN (G := fun m i (c : List Int) => f21_4 n m b.1 i (c, H, E, q) b T) (I := fun i c => SumsTo i c K b.1) (len := 12) (c := 1)
      (by
        intro m i c hi hI hm
        obtain ⟨m, rfl⟩ : ∃ q, m = q + 1 := ⟨m - 1, by omega⟩
        refine ⟨_, m, hI.step (by show i < K.length; rw [show K.length = 12 from h1]; exact hi), by omega, ?_⟩
        show f21_4 n (m + 1) b.1 i (c, H, E, q) b T = _
        rw [f21_4_eq, decide_eq_true (show (i : Int) < 12 by omega), decide_eq_true (show (0 : Int) ≤ (i : Int) ∧ (i : Int) < ((12 : Nat) : Int) by omega), wI (n := (i : Int) + 1) (by omega) (by omega)]
        rfl) 12 0 m K (by omega) (SumsTo.zero _ _) (by omega)
    obtain ⟨m1, rfl⟩ : ∃ q, m1 = q + 1 := ⟨m1 - 1, by omega⟩
    refine ⟨s, m1, by omega, h4.sums, ?_⟩
    rw [show ((0 : Nat) : Int) = 0 from rfl] at h6
    refine h6.trans ?_
    show f21_4 n (m1 + 1) b.1 ((12 : Nat) : Int) (s, H, E, q) b T = _
    rw [f21_4_eq, decide_eq_false (show ¬ ((12 : Nat) : Int) < 12 by omega), cond_false]
  have g2 : ∀ (K' : List Int) (T : Tal) (m : Nat), 8 ≤ m → ∃ H' m', m ≤ m' + 8 ∧ Sums 7 H' H b.2.1 ∧ f21_14 n m b.2.1 0 (K', H, E, q) b T = f21_24 n m' b.2.2.1 0 (K', H', E, q) b T := by
    intro K' T m hm
    obtain ⟨s, m1, h4, h5, h6⟩ := loopN (G := fun m i (c : List Int) => f21_14 n m b.2.1 i (K', c, E, q) b T) (I := fun i c => SumsTo i c H b.2.1) (len := 7) (c := 1)
      (by
        intro m i c hi hI hm
        obtain ⟨m, rfl⟩ : ∃ q, m = q + 1 := ⟨m - 1, by omega⟩
        refine ⟨_, m, hI.step (by show i < H.length; rw [show H.length = 7 from h2]; exact hi), by omega, ?_⟩
        show f21_14 n (m + 1) b.2.1 i (K', c, E, q) b T = _
        rw [f21_14_eq, decide_eq_true (show (i : Int) < 7 by omega), decide_eq_true (show (0 : Int) ≤ (i : Int) ∧ (i : Int) < ((7 : Nat) : Int) by omega), wI (n := (i : Int) + 1) (by omega) (by omega)]
        rfl) 7 0 m H (by omega) (SumsTo.zero _ _) (by omega)
    obtain ⟨m1, rfl⟩ : ∃ q, m1 = q + 1 := ⟨m1 - 1, by omega⟩
    refine ⟨s, m1, by omega, h4.sums, ?_⟩
    rw [show ((0 : Nat) : Int) = 0 from rfl] at h6
    refine h6.trans ?_
    show f21_14 n (m1 + 1) b.2.1 ((7 : Nat) : Int) (K', s, E, q) b T = _
    rw [f21_14_eq, decide_eq_false (show ¬ ((7 : Nat) : Int) < 7 by omega), cond_false]
  have g3 : ∀ (K' H' : List Int) (T : Tal) (m : Nat), 7 ≤ m → ∃ E', Sums 6 E' E b.2.2.1 ∧ f21_24 n m b.2.2.1 0 (K', H', E, q) b T = some (K', H', E', (if b.2.2.2.1 > q.1 then b.2.2.2.1 else q.1), (if b.2.2.2.2 > q.2 then b.2.2.2.2 else q.2)) := by
    intro K' H' T m hm
    obtain ⟨s, m1, h4, h5, h6⟩ := loopN (G := fun m i (c : List Int) => f21_24 n m b.2.2.1 i (K', H', c, q) b T) (I := fun i c => SumsTo i c E b.2.2.1) (len := 6) (c := 1)
      (by
        intro m i c hi hI hm
        obtain ⟨m, rfl⟩ : ∃ q, m = q + 1 := ⟨m - 1, by omega⟩
        refine ⟨_, m, hI.step (by show i < E.length; rw [show E.length = 6 from h3]; exact hi), by omega, ?_⟩
        show f21_24 n (m + 1) b.2.2.1 i (K', H', c, q) b T = _
        rw [f21_24_eq, decide_eq_true (show (i : Int) < 6 by omega), decide_eq_true (show (0 : Int) ≤ (i : Int) ∧ (i : Int) < ((6 : Nat) : Int) by omega), wI (n := (i : Int) + 1) (by omega) (by omega)]
        rfl) 6 0 m E (by omega) (SumsTo.zero _ _) (by omega)
    obtain ⟨m1, rfl⟩ : ∃ q, m1 = q + 1 := ⟨m1 - 1, by omega⟩
    refine ⟨s, h4.sums, ?_⟩
    rw [show ((0 : Nat) : Int) = 0 from rfl] at h6
    refine h6.trans ?_
    show f21_24 n (m1 + 1) b.2.2.1 ((6 : Nat) : Int) (K', H', s, q) b T = _
    rw [f21_24_eq, decide_eq_false (show ¬ ((6 : Nat) : Int) < 6 by omega), cond_false]
  have key : ∃ T, f21 n (K, H, E, q) b = f21_4 n n b.1 0 (K, H, E, q) b T := ⟨_, f21_eq n _ b⟩
  obtain ⟨T, key⟩ := key
  obtain ⟨K', m1, hm1, s1, e1⟩ := g1 T n (by omega)
  obtain ⟨H', m2, hm2, s2, e2⟩ := g2 K' T m1 (by omega)
  obtain ⟨E', s3, e3⟩ := g3 K' H' T m2 (by omega)
  exact ⟨_, key.trans (e1.trans (e2.trans e3)), s1, s2, s3, rfl, rfl⟩
theorem checks_go (n : Nat) {a b c : Tal} (h1 : Sums 12 c.1 a.1 b.1) (h2 : Sums 7 c.2.1 a.2.1 b.2.1) (h3 : Sums 6 c.2.2.1 a.2.2.1 b.2.2.1)
    (h4 : c.2.2.2.1 = (if b.2.2.2.1 > a.2.2.2.1 then b.2.2.2.1 else a.2.2.2.1)) (h5 : c.2.2.2.2 = (if b.2.2.2.2 > a.2.2.2.2 then b.2.2.2.2 else a.2.2.2.2)) {m : Nat} (hm : 30 ≤ m) : f3_16 n m 0 a b c = some true := by
  obtain ⟨_, m1, _, h6, e1⟩ := loopN (G := fun m i (_ : Unit) => f3_16 n m i a b c) (I := fun _ _ => True) (len := 12) (c := 1)
    (by
      intro m i _ hi _ hm
      obtain ⟨m, rfl⟩ : ∃ q, m = q + 1 := ⟨m - 1, by omega⟩
      refine ⟨(), m, trivial, by omega, ?_⟩
      show f3_16 n (m + 1) i a b c = _
      rw [f3_16_eq, decide_eq_true (show (i : Int) < 12 by omega), decide_eq_true (show (0 : Int) ≤ (i : Int) ∧ (i : Int) < ((12 : Nat) : Int) by omega), wI (n := (i : Int) + 1) (by omega) (by omega)]
      simp only [cond_true, Int.toNat_natCast, h1 i hi, bne_self_eq_false, cond_false]
      rfl) 12 0 m () (by omega) trivial (by omega)
  obtain ⟨m1, rfl⟩ : ∃ q, m1 = q + 1 := ⟨m1 - 1, by omega⟩
  rw [show ((0 : Nat) : Int) = 0 from rfl] at e1
  refine e1.trans ?_
  show f3_16 n (m1 + 1) ((12 : Nat) : Int) a b c = _
  rw [f3_16_eq, decide_eq_false (show ¬ ((12 : Nat) : Int) < 12 by omega), cond_false]
  obtain ⟨_, m2, _, h7, e2⟩ := loopN (G := fun m i (_ : Unit) => f3_28 n m i a b c) (I := fun _ _ => True) (len := 7) (c := 1)
    (by
      intro m i _ hi _ hm
      obtain ⟨m, rfl⟩ : ∃ q, m = q + 1 := ⟨m - 1, by omega⟩
      refine ⟨(), m, trivial, by omega, ?_⟩
      show f3_28 n (m + 1) i a b c = _
      rw [f3_28_eq, decide_eq_true (show (i : Int) < 7 by omega), decide_eq_true (show (0 : Int) ≤ (i : Int) ∧ (i : Int) < ((7 : Nat) : Int) by omega), wI (n := (i : Int) + 1) (by omega) (by omega)]
      simp only [cond_true, Int.toNat_natCast, h2 i hi, bne_self_eq_false, cond_false]
      rfl) 7 0 m1 () (by omega) trivial (by omega)
  obtain ⟨m2, rfl⟩ : ∃ q, m2 = q + 1 := ⟨m2 - 1, by omega⟩
  rw [show ((0 : Nat) : Int) = 0 from rfl] at e2
  refine e2.trans ?_
  show f3_28 n (m2 + 1) ((7 : Nat) : Int) a b c = _
  rw [f3_28_eq, decide_eq_false (show ¬ ((7 : Nat) : Int) < 7 by omega), cond_false]
  obtain ⟨_, m3, _, h8, e3⟩ := loopN (G := fun m i (_ : Unit) => f3_40 n m i a b c) (I := fun _ _ => True) (len := 6) (c := 1)
    (by
      intro m i _ hi _ hm
      obtain ⟨m, rfl⟩ : ∃ q, m = q + 1 := ⟨m - 1, by omega⟩
      refine ⟨(), m, trivial, by omega, ?_⟩
      show f3_40 n (m + 1) i a b c = _
      rw [f3_40_eq, decide_eq_true (show (i : Int) < 6 by omega), decide_eq_true (show (0 : Int) ≤ (i : Int) ∧ (i : Int) < ((6 : Nat) : Int) by omega), wI (n := (i : Int) + 1) (by omega) (by omega)]
      simp only [cond_true, Int.toNat_natCast, h3 i hi, bne_self_eq_false, cond_false]
      rfl) 6 0 m2 () (by omega) trivial (by omega)
  obtain ⟨m3, rfl⟩ : ∃ q, m3 = q + 1 := ⟨m3 - 1, by omega⟩
  rw [show ((0 : Nat) : Int) = 0 from rfl] at e3
  refine e3.trans ?_
  show f3_40 n (m3 + 1) ((6 : Nat) : Int) a b c = _
  rw [f3_40_eq, decide_eq_false (show ¬ ((6 : Nat) : Int) < 6 by omega), cond_false, h4, h5, beq_self_eq_true, beq_self_eq_true, cond_true]
/-! ### the law -/
/-- What all counts are. -/
def cntT (l : List Ev) : Tal :=
  ((stT l (List.replicate 12 0, List.replicate 7 0, List.replicate 6 0)).1, (stT l (List.replicate 12 0, List.replicate 7 0, List.replicate 6 0)).2.1, (stT l (List.replicate 12 0, List.replicate 7 0, List.replicate 6 0)).2.2, (((joins l).foldl ins []).length : Int), (stD l ([], 0)).2)
theorem of_prog {n : Nat} (hn : 4020001 ≤ n) {l : List Ev} (hl : l.length ≤ 2000) : f17 n l = some (cntT l) := by
  have key : ∃ T, f17 n l = f17_10 n n l l.length 0 T (List.replicate 12 0, List.replicate 7 0, List.replicate 6 0, 0, 0) [] [] := ⟨_, f17_eq n l⟩
  obtain ⟨T, key⟩ := key
  rw [key, prog_go n hl T _ _ _ (by omega), most_same l [] [] 0 ⟨List.nodup_nil, List.nodup_nil, fun x => by simp⟩ (Int.le_refl _)]
  rfl
theorem of_doc {n : Nat} (hn : 4020001 ≤ n) {l : List Ev} (hl : l.length ≤ 2000) : f18 n l = some (cntT l) := by
  have key : ∃ T, f18 n l = (f74 n l).bind fun r1 => f18_8 n n l l.length 0 T (List.replicate 12 0, List.replicate 7 0, List.replicate 6 0, ((List.length r1 : Nat) : Int), 0) [] := ⟨_, f18_eq n l⟩
  obtain ⟨T, key⟩ := key
  rw [key, keysOf_go (by omega) hl, Option.bind_some, doc_go n hl T _ _ _ _ (by omega)]
  rfl
def eqT (a b : Tal) : Bool := eqL (eqD (.int .i64)) a.1 b.1 && (eqL (eqD (.int .i64)) a.2.1 b.2.1 && (eqL (eqD (.int .i64)) a.2.2.1 b.2.2.1 && (a.2.2.2.1 == b.2.2.2.1 && a.2.2.2.2 == b.2.2.2.2)))
theorem eqT_refl (a : Tal) : eqT a a = true := by
  unfold eqT
  rw [eqL_refl, eqL_refl, eqL_refl, beq_self_eq_true, beq_self_eq_true]
  rfl
theorem tally_counts {n : Nat} (hn : 4020001 ≤ n) (l k : List Ev) : f3 n l k = some true := by
  obtain ⟨l', hl, hlen, _⟩ := few_go n l
  obtain ⟨k', hk, hklen, _⟩ := few_go n k
  have haw : f20 n = some true := by
    obtain ⟨q, rfl⟩ : ∃ q, n = q + 8 := ⟨n - 8, by omega⟩
    exact awake_tally q
  have hL := stT_len l' (List.replicate 12 0, List.replicate 7 0, List.replicate 6 0)
  simp only [List.length_replicate] at hL
  obtain ⟨c, hc, s1, s2, s3, s4, s5⟩ := merge_go (n := n) (by omega) (cntT l') (cntT k') hL.1 hL.2.1 hL.2.2
  rw [f3_eq, hl, Option.bind_some, hk, Option.bind_some, of_prog hn hlen, Option.bind_some, of_prog hn hklen, Option.bind_some, given_go hlen (by omega), Option.bind_some, of_doc hn hlen, Option.bind_some,
    given_go hklen (by omega), Option.bind_some, of_doc hn hklen, Option.bind_some, haw, Option.bind_some]
  generalize cntT l' = a at *
  generalize cntT k' = b at *
  show (bif !(eqT a a) then some false else bif !(eqT b b) then some false else (f21 n a b).bind fun r10 => f3_16 n n 0 a b r10) = some true
  rw [eqT_refl, eqT_refl, hc, Option.bind_some]
  exact checks_go n s1 s2 s3 s4 s5 (by omega)
end Go.Proofs.Ytnlnfmakcnadlaa
