/- The programs of a tale are the document's: piece by piece. -/
import Derived.Test.YtaakmifjkobkgaaDoorGc
import Derived.Test.YtaakmifjkobkgaaDoorLDraws
namespace Go.Proofs.YtaakmifjkobkgaaDoor
open Go.Rf Go.Lib
abbrev Key := Int × ByteArray
abbrev Act := Int × (Key × (Int × Int))
abbrev Tale := Int × (Int × (Int × (Int × (Int × Int))))
/-- A tale that may be, but for its kind. -/
structure May (t : Tale) : Prop where
  cl : 1 ≤ t.2.1 ∧ t.2.1 ≤ 64
  ca : 1 ≤ t.2.2.1 ∧ t.2.2.1 ≤ 64
  ke : 1 ≤ t.2.2.2.1 ∧ t.2.2.2.1 ≤ 64
  pa : 0 ≤ t.2.2.2.2.1 ∧ t.2.2.2.2.1 ≤ 4611686018427387904
/-- A key by its number. -/
noncomputable def kOf (n : Nat) (i : Int) : Key := (f15L n i).getD (0, ByteArray.empty)
theorem key_is {n : Nat} (hn : 20 ≤ n) {i : Int} (hi : i64 i) : f15L n i = some (kOf n i) ∧ f16 n i = some (kOf n i) := by
  obtain ⟨k, h1, h2⟩ := key_alike n hn hi
  unfold kOf
  rw [h1, h2]
  exact ⟨rfl, rfl⟩
theorem key_small {n : Nat} {i : Int} (h0 : 0 ≤ i) (h1 : i ≤ 64) : (kOf n i).2.size ≤ 64 := by
  obtain ⟨u, rfl⟩ := Int.eq_ofNat_of_zero_le h0
  unfold kOf
  rw [f15L_eq, if_neg (by omega)]
  unfold f29L itoaF
  rw [if_pos ⟨by omega, by omega⟩, itoa_nonneg]
  have hn2 := nDigits_le20 u (by omega)
  have hs : (⟨(decDigits u).toArray⟩ : ByteArray).size = nDigits u := by rw [← decDigits_length]; rfl
  simp only [Option.bind_some, hs]
  rw [decide_eq_false (by simp only [Int.ofNat_eq_natCast]; omega), cond_false, Option.getD_some]
  show (s15Lx0 ++ _).size ≤ 64
  rw [ByteArray.size_append, hs]
  have : s15Lx0.size = 1 := rfl
  omega
theorem tmod_small {a k : Int} (ha : 0 ≤ a) (hk : 1 ≤ k) (h64 : k ≤ 64) : 0 ≤ a.tmod k ∧ a.tmod k ≤ 63 := by
  rw [Int.tmod_eq_emod_of_nonneg ha]
  have h1 := Int.emod_nonneg a (show k ≠ 0 by omega)
  have h2 := Int.emod_lt_of_pos a (show 0 < k by omega)
  omega
/-- The key that a client asks for as its j-th one. -/
noncomputable def kAt (n : Nat) (t : Tale) (i j : Nat) : Key := kOf n ((((i + j : Nat) : Int)).tmod t.2.2.2.1)
noncomputable def drawn (n : Nat) (t : Tale) (i j : Nat) : Int := (f12 n t.2.2.2.1 ((i * 64 + j : Nat) : Int) t.2.2.2.2.2).getD 0
theorem drawn_is (n : Nat) {t : Tale} (h : May t) (i j : Nat) : f12 n t.2.2.2.1 ((i * 64 + j : Nat) : Int) t.2.2.2.2.2 = some (drawn n t i j) ∧ f13 n t.2.2.2.1 ((i * 64 + j : Nat) : Int) t.2.2.2.2.2 = some (drawn n t i j) ∧ 0 ≤ drawn n t i j ∧ drawn n t i j ≤ 63 := by
  have := h.ke
  obtain ⟨k, h1, h2, h3⟩ := draw_alike n (p := t.2.2.2.1) ⟨by omega, by omega⟩ ((i * 64 + j : Nat) : Int) t.2.2.2.2.2
  unfold drawn
  rw [h1, h2]
  have := h3 (by omega)
  exact ⟨rfl, rfl, by simp only [Option.getD_some]; omega, by simp only [Option.getD_some]; omega⟩
/-- What a client does as its j-th call. -/
noncomputable def piece (n : Nat) (t : Tale) (i j : Nat) : List Act :=
  if t.1 = 2 then [((8 : Int), ((0 : Int), ByteArray.empty), t.2.2.2.2.1, (0 : Int)), ((1 : Int), kAt n t i j, (0 : Int), (0 : Int))]
  else if t.1 = 3 then [((1 : Int), kOf n (drawn n t i j), (0 : Int), (0 : Int))]
  else if t.1 = 4 ∨ t.1 = 6 then [((2 : Int), kAt n t i j, (0 : Int), ((j : Nat) : Int).tmod (16 : Int))]
  else if t.1 = 5 then [((1 : Int), kAt n t i j, (0 : Int), (0 : Int)), ((4 : Int), kAt n t i j, (0 : Int), (0 : Int))]
  else [((1 : Int), kOf n 0, (0 : Int), (0 : Int))]
theorem piece_len (n : Nat) (t : Tale) (i j : Nat) : (piece n t i j).length ≤ 2 := by
  unfold piece
  repeat' split
  all_goals simp
/-- A loop that appends a piece a round. -/
theorem loopP {α R : Type} {G : Nat → Int → List α → Option R} {p : Nat → List α} {len : Nat} (hp : ∀ j, j < len → (p j).length ≤ 2)
    (step : ∀ m j acc, j < len → acc.length ≤ 1000 → G (m + 1) ((j : Nat) : Int) acc = G m ((j + 1 : Nat) : Int) (acc ++ p j)) :
    ∀ k j m acc, j + k = len → acc.length + 2 * k ≤ 1000 → G (m + k) ((j : Nat) : Int) acc = G m ((len : Nat) : Int) (acc ++ (List.range' j k).flatMap p) := by
  intro k
  induction k with
  | zero =>
    intro j m acc hj _
    obtain rfl : j = len := by omega
    simp
  | succ k ih =>
    intro j m acc hj ha
    have := hp j (by omega)
    rw [show m + (k + 1) = (m + k) + 1 by omega, step (m + k) j acc (by omega) (by omega), ih (j + 1) m (acc ++ p j) (by omega) (by rw [List.length_append]; omega), List.range'_succ, List.flatMap_cons, List.append_assoc]
noncomputable def pieces (n : Nat) (t : Tale) (i : Nat) : List Act := (List.range' 0 t.2.2.1.toNat).flatMap (piece n t i)
theorem flat_len {α β : Type} {p : α → List β} (c : Nat) : ∀ (l : List α), (∀ x ∈ l, (p x).length ≤ c) → (l.flatMap p).length ≤ c * l.length
  | [], _ => by simp
  | x :: l, h => by
    have h1 := h x (by simp)
    have h2 := flat_len c l (fun y hy => h y (by simp [hy]))
    rw [List.flatMap_cons, List.length_append, List.length_cons, Nat.mul_add]
    omega
theorem pieces_len (n : Nat) {t : Tale} (h : May t) (i : Nat) : (pieces n t i).length ≤ 128 := by
  have h1 := flat_len 2 (List.range' 0 t.2.2.1.toNat) (p := piece n t i) (fun j _ => piece_len n t i j)
  have := h.ca
  rw [List.length_range'] at h1
  unfold pieces
  omega
theorem fits_n {α : Type} {acc l : List α} {c : Nat} (ha : acc.length ≤ 1000) (hl : l.length ≤ 130) (hc : c ≤ 1000) : decide ((acc.length + l.length) * c ≤ maxBytes) = true := by
  apply decide_eq_true
  have : (acc.length + l.length) * c ≤ 1130 * 1000 := Nat.mul_le_mul (by omega) hc
  unfold maxBytes
  omega
theorem cast1 (j : Nat) (hj : j ≤ 1000) : IntKind.i64.wrap (((j : Nat) : Int) + 1) = ((j + 1 : Nat) : Int) := by rw [wI (by omega) (by omega)]; omega
theorem kAt_ok {n : Nat} (hn : 100 ≤ n) {t : Tale} (h : May t) {i : Nat} (hi : i < 64) {j : Nat} (hj : j < 1000) :
    (t.2.2.2.1 = 0) = False ∧ f15L n ((IntKind.i64.wrap (((i : Nat) : Int) + ((j : Nat) : Int))).tmod t.2.2.2.1) = some (kAt n t i j) ∧ f16 n ((IntKind.i64.wrap (((i : Nat) : Int) + ((j : Nat) : Int))).tmod t.2.2.2.1) = some (kAt n t i j) := by
  have := h.ke
  have hb := tmod_small (a := ((i + j : Nat) : Int)) (k := t.2.2.2.1) (by omega) (by omega) (by omega)
  rw [wI (by omega) (by omega), show ((i : Int) + (j : Int)) = ((i + j : Nat) : Int) by omega]
  exact ⟨eq_false (by omega), key_is (by omega) ⟨by omega, by omega⟩⟩
theorem key59 {n : Nat} (hn : 100 ≤ n) {t : Tale} (h : May t) {i : Nat} (hi : i < 64) {j : Nat} (hj : j < 1000) : f59 n t ((i : Nat) : Int) ((j : Nat) : Int) = some (kAt n t i j) := by
  obtain ⟨h1, h2, _⟩ := kAt_ok hn h hi hj
  rw [f59_eq, h2]
  simp only [h1, decide_false, cond_false, Option.bind_some]
theorem calls_nat {t : Tale} (h : May t) : ∃ c : Nat, t.2.2.1 = (c : Int) ∧ 1 ≤ c ∧ c ≤ 64 := by
  have := h.ca
  obtain ⟨c, hc⟩ := Int.eq_ofNat_of_zero_le (show 0 ≤ t.2.2.1 by omega)
  exact ⟨c, hc, by omega, by omega⟩
theorem go2 {n : Nat} (hn : 100 ≤ n) {t : Tale} (h : May t) (ht : t.1 = 2) {i : Nat} (hi : i < 64) : f44 n t i = some (pieces n t i) := by
  obtain ⟨c, hc, h1, h2⟩ := calls_nat h
  obtain ⟨m, hm⟩ : ∃ m, n = (m + 1) + c := ⟨n - 1 - c, by omega⟩
  have := loopP (G := fun m j acc => f44_6 n m i c j t acc) (p := piece n t i) (len := c) (fun j _ => piece_len n t i j) (fun m j acc hj ha => by
    rw [f44_6_eq, decide_eq_true (by omega), key59 hn h hi (by omega)]
    simp only [cond_true, Option.bind_some]
    rw [fits_n ha (by simp) (by omega), cond_true, cast1 j (by omega)]
    unfold piece
    rw [if_pos ht]) c 0 (m + 1) [] (by omega) (by simp; omega)
  rw [← hm] at this
  rw [f44_eq, hc]
  refine this.trans ?_
  simp only [f44_6_eq]
  rw [decide_eq_false (by omega), cond_false, pieces, hc]
  rfl
theorem go3 {n : Nat} (hn : 100 ≤ n) {t : Tale} (h : May t) (ht : t.1 = 3) {i : Nat} (hi : i < 64) : f45 n t i = some (pieces n t i) := by
  obtain ⟨c, hc, h1, h2⟩ := calls_nat h
  obtain ⟨m, hm⟩ : ∃ m, n = (m + 1) + c := ⟨n - 1 - c, by omega⟩
  have := loopP (G := fun m j acc => f45_6 n m i c j t acc) (p := piece n t i) (len := c) (fun j _ => piece_len n t i j) (fun m j acc hj ha => by
    obtain ⟨d1, d2, d3, d4⟩ := drawn_is n h i j
    rw [f45_6_eq, decide_eq_true (by omega), wI (n := (i : Int) * 64) (by omega) (by omega), wI (n := (i : Int) * 64 + (j : Int)) (by omega) (by omega), show (i : Int) * 64 + (j : Int) = ((i * 64 + j : Nat) : Int) by omega, d1]
    simp only [cond_true, Option.bind_some]
    rw [(key_is (by omega) ⟨by omega, by omega⟩).1]
    simp only [Option.bind_some]
    rw [fits_n ha (by simp) (by omega), cond_true, cast1 j (by omega)]
    unfold piece
    rw [if_neg (by omega), if_pos ht]) c 0 (m + 1) [] (by omega) (by simp; omega)
  rw [← hm] at this
  rw [f45_eq, hc]
  refine this.trans ?_
  simp only [f45_6_eq]
  rw [decide_eq_false (by omega), cond_false, pieces, hc]
  rfl
theorem go_starts {n : Nat} (hn : 100 ≤ n) {t : Tale} (h : May t) (ht : t.1 = 4 ∨ t.1 = 6) {i : Nat} (hi : i < 64) : f60o n t i = some ((), (pieces n t i, ())) := by
  obtain ⟨c, hc, h1, h2⟩ := calls_nat h
  obtain ⟨m, hm⟩ : ∃ m, n = (m + 1) + c := ⟨n - 1 - c, by omega⟩
  have := loopP (G := fun m j acc => f60o_6 n m i c j t acc) (p := piece n t i) (len := c) (fun j _ => piece_len n t i j) (fun m j acc hj ha => by
    rw [f60o_6_eq, decide_eq_true (by omega), key59 hn h hi (by omega)]
    simp only [cond_true, Option.bind_some]
    rw [fits_n ha (by simp) (by omega), cond_true, cast1 j (by omega)]
    unfold piece
    rw [if_neg (by omega), if_neg (by omega), if_pos ht]) c 0 (m + 1) [] (by omega) (by simp; omega)
  rw [← hm] at this
  rw [f60o_eq, hc]
  refine this.trans ?_
  simp only [f60o_6_eq]
  rw [decide_eq_false (by omega), cond_false, pieces, hc]
  rfl
theorem go5 {n : Nat} (hn : 100 ≤ n) {t : Tale} (h : May t) (ht : t.1 = 5) {i : Nat} (hi : i < 64) : f47 n t i = some (pieces n t i) := by
  obtain ⟨c, hc, h1, h2⟩ := calls_nat h
  obtain ⟨m, hm⟩ : ∃ m, n = (m + 1) + c := ⟨n - 1 - c, by omega⟩
  have := loopP (G := fun m j acc => f47_6 n m i c j t acc) (p := piece n t i) (len := c) (fun j _ => piece_len n t i j) (fun m j acc hj ha => by
    rw [f47_6_eq, decide_eq_true (by omega), key59 hn h hi (by omega)]
    simp only [cond_true, Option.bind_some]
    rw [fits_n ha (by simp) (by omega), cond_true, cast1 j (by omega)]
    unfold piece
    rw [if_neg (by omega), if_neg (by omega), if_neg (by omega), if_pos ht]) c 0 (m + 1) [] (by omega) (by simp; omega)
  rw [← hm] at this
  rw [f47_eq, hc]
  refine this.trans ?_
  simp only [f47_6_eq]
  rw [decide_eq_false (by omega), cond_false, pieces, hc]
  rfl
theorem go1 {n : Nat} (hn : 100 ≤ n) {t : Tale} (h : May t) (ht : t.1 = 1) (i : Nat) : f43L n t i = some (pieces n t i) := by
  obtain ⟨c, hc, h1, h2⟩ := calls_nat h
  obtain ⟨m, hm⟩ : ∃ m, n = (m + 1) + c := ⟨n - 1 - c, by omega⟩
  have := loopP (G := fun m j acc => f43L_6 n m c j acc) (p := piece n t i) (len := c) (fun j _ => piece_len n t i j) (fun m j acc hj ha => by
    rw [f43L_6_eq, decide_eq_true (by omega), (key_is (n := n) (by omega) (i := 0) ⟨by omega, by omega⟩).1]
    simp only [cond_true, Option.bind_some]
    rw [fits_n ha (by simp) (by omega), cond_true, cast1 j (by omega)]
    unfold piece
    rw [if_neg (by omega), if_neg (by omega), if_neg (by omega), if_neg (by omega)]) c 0 (m + 1) [] (by omega) (by simp; omega)
  rw [← hm] at this
  rw [f43L_eq, hc]
  refine this.trans ?_
  simp only [f43L_6_eq]
  rw [decide_eq_false (by omega), cond_false, pieces, hc]
  rfl
/-- What stands ahead of the calls, and behind them. -/
def ahead (t : Tale) (i : Nat) : List Act := if t.1 = 4 then [((9 : Int), ((0 : Int), ByteArray.empty), ((i + 1 : Nat) : Int), (0 : Int))] else []
def waits (t : Tale) : List Act := (List.range' 0 (min 16 t.2.2.1.toNat)).flatMap fun s => [((3 : Int), ((0 : Int), ByteArray.empty), (0 : Int), ((s : Nat) : Int))]
def after (t : Tale) (i : Nat) : List Act :=
  if t.1 = 4 then [((5 : Int), ((0 : Int), ByteArray.empty), ((i + 1 : Nat) : Int), (0 : Int)), ((3 : Int), ((0 : Int), ByteArray.empty), (0 : Int), (0 : Int))]
  else if t.1 = 6 then waits t else []
/-- The program of a client. -/
noncomputable def prog (n : Nat) (t : Tale) (i : Nat) : List Act := ahead t i ++ pieces n t i ++ after t i
theorem waits_len (t : Tale) : (waits t).length ≤ 32 := by
  unfold waits
  have := flat_len 1 (List.range' 0 (min 16 t.2.2.1.toNat)) (p := fun s => [((3 : Int), ((0 : Int), ByteArray.empty), (0 : Int), ((s : Nat) : Int))]) (fun _ _ => by simp)
  rw [List.length_range'] at this
  omega
theorem go_program {n : Nat} (hn : 100 ≤ n) {t : Tale} (h : May t) (h1 : 1 ≤ t.1) (h6 : t.1 ≤ 6) {i : Nat} (hi : i < 64) : f31L n t i = some (prog n t i) := by
  have hp := pieces_len n h i
  have e : ∀ {k : Int}, t.1 ≠ k → (t.1 == k) = false := fun h => beq_false_of_ne h
  rw [f31L_eq]
  by_cases k2 : t.1 = 2
  · rw [k2, beq_self_eq_true, cond_true, go2 hn h k2 hi]
    simp [prog, ahead, after, k2]
  rw [e k2, cond_false]
  by_cases k3 : t.1 = 3
  · rw [k3, beq_self_eq_true, cond_true, go3 hn h k3 hi]
    simp [prog, ahead, after, k3]
  rw [e k3, cond_false]
  by_cases k4 : t.1 = 4
  · rw [k4, beq_self_eq_true, cond_true, f46_eq, go_starts hn h (.inl k4) hi, cast1 i (by omega)]
    simp only [Option.bind_some]
    rw [fits_n (by simp) (by omega) (by omega), cond_true, fits_n (by simp; omega) (by simp) (by omega), cond_true]
    simp [prog, ahead, after, k4]
  rw [e k4, cond_false]
  by_cases k5 : t.1 = 5
  · rw [k5, beq_self_eq_true, cond_true, go5 hn h k5 hi]
    simp [prog, ahead, after, k5]
  rw [e k5, cond_false]
  by_cases k6 : t.1 = 6
  · rw [k6, beq_self_eq_true, cond_true, f48_eq, go_starts hn h (.inr k6) hi]
    simp only [Option.bind_some]
    obtain ⟨c, hc, c1, c2⟩ := calls_nat h
    have hif : (if (16 : Int) < t.2.2.1 then (16 : Int) else t.2.2.1) = ((min 16 c : Nat) : Int) := by
      rw [hc]
      split <;> omega
    rw [hif]
    obtain ⟨m, hm⟩ : ∃ m, n = (m + 1) + min 16 c := ⟨n - 1 - min 16 c, by omega⟩
    have := loopP (G := fun m j acc => f48_6 n m ((min 16 c : Nat) : Int) j acc) (p := fun s => [((3 : Int), ((0 : Int), ByteArray.empty), (0 : Int), ((s : Nat) : Int))]) (len := min 16 c) (fun j _ => by simp) (fun m j acc hj ha => by
      rw [f48_6_eq, decide_eq_true (by omega)]
      simp only [cond_true]
      rw [fits_n ha (by simp) (by omega), cond_true, cast1 j (by omega)]) (min 16 c) 0 (m + 1) (pieces n t i) (by omega) (by omega)
    rw [← hm] at this
    rw [show f48_6 n n ((min 16 c : Nat) : Int) 0 (pieces n t i) = _ from this]
    simp only [f48_6_eq]
    rw [decide_eq_false (by omega), cond_false]
    simp [prog, ahead, after, k6, waits, hc]
  rw [e k6, cond_false, go1 hn h (by omega) i]
  simp [prog, ahead, after, k4, k6]
/-- The document's program. -/
theorem ref_program {n : Nat} (hn : 200 ≤ n) {t : Tale} (h : May t) (h1 : 1 ≤ t.1) (h6 : t.1 ≤ 6) {i : Nat} (hi : i < 64) : f35 n t i = some (prog n t i) := by
  obtain ⟨c, hc, c1, c2⟩ := calls_nat h
  have hp := pieces_len n h i
  have ha : (ahead t i).length ≤ 1 := by unfold ahead; split <;> simp
  have e : ∀ {k : Int}, t.1 ≠ k → (t.1 == k) = false := fun h => beq_false_of_ne h
  obtain ⟨m, hm⟩ : ∃ m, n = (m + 1 + 20) + c := ⟨n - 21 - c, by omega⟩
  have loop := loopP (G := fun m j acc => f35_10 n m i j t acc) (p := piece n t i) (len := c) (fun j _ => piece_len n t i j) (fun m j acc hj ha => by
    obtain ⟨k1, k2, k3⟩ := kAt_ok (n := n) (by omega) h hi (j := j) (by omega)
    rw [f35_10_eq, decide_eq_true (by omega), k3]
    simp only [cond_true, k1, decide_false, cond_false, Option.bind_some]
    rw [cast1 j (by omega)]
    unfold piece
    by_cases q1 : t.1 = 1
    · rw [q1, beq_self_eq_true, cond_true, (key_is (n := n) (by omega) (i := 0) ⟨by omega, by omega⟩).2]
      simp only [Option.bind_some]
      rw [fits_n ha (by simp) (by omega), cond_true]
      rfl
    rw [e q1, cond_false]
    by_cases q2 : t.1 = 2
    · rw [q2, beq_self_eq_true, cond_true, fits_n ha (by simp) (by omega), cond_true]
      rfl
    rw [e q2, cond_false, if_neg q2]
    by_cases q3 : t.1 = 3
    · obtain ⟨d1, d2, d3, d4⟩ := drawn_is n h i j
      rw [q3, beq_self_eq_true, cond_true, wI (n := (i : Int) * 64) (by omega) (by omega), wI (n := (i : Int) * 64 + (j : Int)) (by omega) (by omega), show (i : Int) * 64 + (j : Int) = ((i * 64 + j : Nat) : Int) by omega, d2]
      simp only [Option.bind_some]
      rw [(key_is (n := n) (by omega) ⟨by omega, by omega⟩).2]
      simp only [Option.bind_some]
      rw [fits_n ha (by simp) (by omega), cond_true, if_pos trivial]
    rw [e q3, cond_false, if_neg q3]
    by_cases q4 : t.1 = 4
    · rw [q4, beq_self_eq_true, cond_true, cond_true, fits_n ha (by simp) (by omega), cond_true, if_pos (.inl rfl)]
    rw [e q4, cond_false]
    by_cases q6 : t.1 = 6
    · rw [q6, beq_self_eq_true, cond_true, fits_n ha (by simp) (by omega), cond_true, if_pos (.inr rfl)]
    rw [e q6, cond_false, if_neg (by omega), show t.1 = 5 by omega, beq_self_eq_true, cond_true, fits_n ha (by simp) (by omega), cond_true]
    first | rfl | rw [if_pos rfl] | rw [if_pos trivial]) c 0 (m + 1 + 20) (ahead t i) (by omega) (by omega)
  rw [← hm] at loop
  have tail : f35 n t i = f35_10 n (m + 1 + 20) i c t (ahead t i ++ pieces n t i) := by
    have e2 : pieces n t i = (List.range' 0 c).flatMap (piece n t i) := by rw [pieces, hc]; rfl
    rw [e2, f35_eq]
    refine Eq.trans ?_ loop
    unfold ahead
    by_cases q4 : t.1 = 4
    · rw [q4, beq_self_eq_true, cond_true, cast1 i (by omega)]
      rfl
    · rw [e q4, cond_false, if_neg q4]
      rfl
  rw [tail, show m + 1 + 20 = (m + 20) + 1 by omega, f35_10_eq, decide_eq_false (by omega), cond_false]
  have l2 : (ahead t i ++ pieces n t i).length ≤ 129 := by rw [List.length_append]; omega
  by_cases q4 : t.1 = 4
  · rw [q4, beq_self_eq_true, cond_true, fits_n (by omega) (by simp) (by omega), cond_true, cast1 i (by omega), f35_48_eq, decide_eq_true (by omega), decide_eq_true (by omega), q4]
    simp [prog, after, q4]
  rw [e q4, cond_false]
  by_cases q6 : t.1 = 6
  · obtain ⟨m', hm'⟩ : ∃ m', m + 20 = (m' + 1) + min 16 c := ⟨m + 20 - 1 - min 16 c, by omega⟩
    have loop2 := loopP (G := fun m j acc => f35_48 n m j t acc) (p := fun s => [((3 : Int), ((0 : Int), ByteArray.empty), (0 : Int), ((s : Nat) : Int))]) (len := min 16 c) (fun j _ => by simp) (fun m j acc hj ha => by
      rw [f35_48_eq, decide_eq_true (by omega), decide_eq_true (by omega), q6, beq_self_eq_true]
      simp only [cond_true]
      rw [fits_n ha (by simp) (by omega), cond_true, cast1 j (by omega)]) (min 16 c) 0 (m' + 1) (ahead t i ++ pieces n t i) (by omega) (by omega)
    rw [← hm'] at loop2
    rw [show f35_48 n (m + 20) 0 t (ahead t i ++ pieces n t i) = _ from loop2]
    simp only [f35_48_eq]
    have e3 : after t i = (List.range' 0 (min 16 c)).flatMap fun s => [((3 : Int), ((0 : Int), ByteArray.empty), (0 : Int), ((s : Nat) : Int))] := by
      unfold after waits
      rw [if_neg q4, if_pos q6, hc]
      rfl
    unfold prog
    rw [e3]
    by_cases q16 : c < 16
    · rw [decide_eq_true (show ((min 16 c : Nat) : Int) < 16 by omega), decide_eq_false (show ¬ ((min 16 c : Nat) : Int) < t.2.2.1 by omega)]
      rfl
    · rw [decide_eq_false (show ¬ ((min 16 c : Nat) : Int) < 16 by omega)]
      rfl
  · rw [f35_48_eq, decide_eq_true (by omega), decide_eq_true (by omega), e q6]
    simp [prog, after, q4, q6]
end Go.Proofs.YtaakmifjkobkgaaDoor
