/- What a tale makes may be played: each act, each recipe. -/
import Derived.Test.YtaakmifjkobkgaaDoorLMakes
namespace Go.Proofs.YtaakmifjkobkgaaDoor
open Go.Rf Go.Lib
theorem key_may {n : Nat} {k : Key} (h : k.2.size ≤ 64) : f53 n k = some 0 := by
  rw [f53_eq, decide_eq_false (by omega)]
  rfl
theorem ne_empty {b : ByteArray} (h : b.data.toList ≠ []) : (b.toList == ByteArray.empty.toList) = false := by
  rw [toList_data, toList_data]
  exact beq_false_of_ne h
theorem f66_end {n : Nat} (hn : 1 ≤ n) (d : Act) (h : d.1 = 5 → d.2.2.1 > 0) : f66_21 n n d = some true := by
  obtain ⟨m, rfl⟩ : ∃ m, n = m + 1 := ⟨n - 1, by omega⟩
  rw [f66_21_eq]
  by_cases h5 : d.1 = 5
  · rw [h5, decide_eq_true (h h5)]
    rfl
  · rw [show (d.1 != 5) = true by simpa using h5]
    rfl
theorem may1 {n : Nat} (hn : 1 ≤ n) {k : Key} (hk : k.2.size ≤ 64) : f66 n ((1 : Int), k, (0 : Int), (0 : Int)) = some true := by
  have e : f71 n 1 = some (s71x0, true, false, false, 0) := by rw [f71_eq]; rfl
  rw [f66_eq]
  simp only [e, Option.bind_some]
  rw [ne_empty (by decide), key_may hk]
  exact f66_end hn _ (fun h => by cases h)
theorem may4 {n : Nat} (hn : 1 ≤ n) {k : Key} (hk : k.2.size ≤ 64) : f66 n ((4 : Int), k, (0 : Int), (0 : Int)) = some true := by
  have e : f71 n 4 = some (s71x3, true, false, false, 0) := by rw [f71_eq]; rfl
  rw [f66_eq]
  simp only [e, Option.bind_some]
  rw [ne_empty (by decide), key_may hk]
  exact f66_end hn _ (fun h => by cases h)
theorem may2 {n : Nat} (hn : 1 ≤ n) {k : Key} (hk : k.2.size ≤ 64) {s : Int} (h0 : 0 ≤ s) (h1 : s < 16) : f66 n ((2 : Int), k, (0 : Int), s) = some true := by
  have e : f71 n 2 = some (s71x1, true, true, false, 0) := by rw [f71_eq]; rfl
  rw [f66_eq]
  simp only [e, Option.bind_some]
  rw [ne_empty (by decide), key_may hk, decide_eq_false (show ¬ s < 0 by omega), decide_eq_false (show ¬ s ≥ 16 by omega)]
  exact f66_end hn _ (fun h => by cases h)
theorem may3 {n : Nat} (hn : 1 ≤ n) {s : Int} (h0 : 0 ≤ s) (h1 : s < 16) : f66 n ((3 : Int), ((0 : Int), ByteArray.empty), (0 : Int), s) = some true := by
  have e : f71 n 3 = some (s71x2, false, true, false, 0) := by rw [f71_eq]; rfl
  rw [f66_eq]
  simp only [e, Option.bind_some]
  rw [ne_empty (by decide), decide_eq_false (show ¬ s < 0 by omega), decide_eq_false (show ¬ s ≥ 16 by omega), str_refl]
  exact f66_end hn _ (fun h => by cases h)
theorem may5 {n : Nat} (hn : 1 ≤ n) {a : Int} (h0 : 1 ≤ a) (h1 : a ≤ 1024) : f66 n ((5 : Int), ((0 : Int), ByteArray.empty), a, (0 : Int)) = some true := by
  have e : f71 n 5 = some (s71x4, false, false, true, 1024) := by rw [f71_eq]; rfl
  rw [f66_eq]
  simp only [e, Option.bind_some]
  rw [ne_empty (by decide), decide_eq_false (show ¬ a < 0 by omega), decide_eq_false (show ¬ a > 1024 by omega), str_refl]
  exact f66_end hn _ (fun _ => by show a > 0; omega)
theorem may8 {n : Nat} (hn : 1 ≤ n) {a : Int} (h0 : 0 ≤ a) (h1 : a ≤ 4611686018427387904) : f66 n ((8 : Int), ((0 : Int), ByteArray.empty), a, (0 : Int)) = some true := by
  have e : f71 n 8 = some (s71x7, false, false, true, 4611686018427387904) := by rw [f71_eq]; rfl
  rw [f66_eq]
  simp only [e, Option.bind_some]
  rw [ne_empty (by decide), decide_eq_false (show ¬ a < 0 by omega), decide_eq_false (show ¬ a > 4611686018427387904 by omega), str_refl]
  exact f66_end hn _ (fun h => by cases h)
theorem may9 {n : Nat} (hn : 1 ≤ n) {a : Int} (h0 : 0 ≤ a) (h1 : a ≤ 1024) : f66 n ((9 : Int), ((0 : Int), ByteArray.empty), a, (0 : Int)) = some true := by
  have e : f71 n 9 = some (s71x8, false, false, true, 1024) := by rw [f71_eq]; rfl
  rw [f66_eq]
  simp only [e, Option.bind_some]
  rw [ne_empty (by decide), decide_eq_false (show ¬ a < 0 by omega), decide_eq_false (show ¬ a > 1024 by omega), str_refl]
  exact f66_end hn _ (fun h => by cases h)
theorem prog_may {n : Nat} (hn : 100 ≤ n) {t : Tale} (h : May t) {i : Nat} (hi : i < 64) : ∀ d ∈ prog n t i, f66 n d = some true := by
  intro d hd
  have hke := h.ke
  have hpa := h.pa
  obtain ⟨c, hc, c1, c2⟩ := calls_nat h
  unfold prog at hd
  rcases List.mem_append.1 hd with hd | hd
  · rcases List.mem_append.1 hd with hd | hd
    · unfold ahead at hd
      split at hd
      · rw [List.mem_singleton] at hd
        subst hd
        exact may9 (by omega) (by omega) (by omega)
      · cases hd
    · unfold pieces at hd
      obtain ⟨j, hj, hd⟩ := List.mem_flatMap.1 hd
      rw [List.mem_range'_1, hc] at hj
      have hb := tmod_small (a := ((i + j : Nat) : Int)) (k := t.2.2.2.1) (by omega) (by omega) (by omega)
      have hk : (kAt n t i j).2.size ≤ 64 := key_small (by omega) (by omega)
      obtain ⟨d1, d2, d3, d4⟩ := drawn_is n h i j
      have h16 := tmod_small (a := (j : Int)) (k := 16) (by omega) (by omega) (by omega)
      have h16' : ((j : Nat) : Int).tmod 16 < 16 := by rw [Int.tmod_eq_emod_of_nonneg (by omega)]; omega
      unfold piece at hd
      split at hd
      · rcases List.mem_cons.1 hd with e | hd
        · subst e; exact may8 (by omega) (by omega) (by omega)
        · rw [List.mem_singleton] at hd
          subst hd; exact may1 (by omega) hk
      split at hd
      · rw [List.mem_singleton] at hd
        subst hd
        exact may1 (by omega) (key_small (by omega) (by omega))
      split at hd
      · rw [List.mem_singleton] at hd
        subst hd
        exact may2 (by omega) hk (by omega) (by omega)
      split at hd
      · rcases List.mem_cons.1 hd with e | hd
        · subst e; exact may1 (by omega) hk
        · rw [List.mem_singleton] at hd
          subst hd; exact may4 (by omega) hk
      · rw [List.mem_singleton] at hd
        subst hd
        exact may1 (by omega) (key_small (by omega) (by omega))
  · unfold after at hd
    split at hd
    · rcases List.mem_cons.1 hd with e | hd
      · subst e; exact may5 (by omega) (by omega) (by omega)
      · rw [List.mem_singleton] at hd
        subst hd; exact may3 (by omega) (by omega) (by omega)
    · split at hd
      · unfold waits at hd
        obtain ⟨j, hj, hd⟩ := List.mem_flatMap.1 hd
        rw [List.mem_range'_1, hc] at hj
        rw [List.mem_singleton] at hd
        subst hd
        exact may3 (by omega) (by omega) (by omega)
      · cases hd
theorem acts_may (n : Nat) (l : List Act) (hl : l.length ≤ 256) (h : ∀ d ∈ l, f66 n d = some true) : ∀ j k m, k + j = l.length → f55_8 n (m + (j + 1)) l l.length ((k : Nat) : Int) = some (0, 0) := by
  intro j
  induction j with
  | zero =>
    intro k m hk
    rw [show m + (0 + 1) = m + 1 by omega, f55_8_eq, decide_eq_false (by omega)]
    rfl
  | succ j ih =>
    intro k m hk
    rw [show m + (j + 1 + 1) = (m + (j + 1)) + 1 by omega, f55_8_eq, decide_eq_true (by omega), decide_eq_true (by omega), show ((k : Nat) : Int).toNat = k from rfl, h _ (getD_mem' (by omega))]
    simp only [cond_true, Option.bind_some, Bool.not_true, cond_false]
    rw [cast1 k (by omega)]
    exact ih (k + 1) m (by omega)
theorem client_may {n : Nat} (hn : 1000 ≤ n) {t : Tale} (h : May t) {i : Nat} (hi : i < 64) : f55 n (prog n t i) = some (0, 0) := by
  have hl := prog_len n h i
  rw [f55_eq, decide_eq_false (by omega), cond_false]
  obtain ⟨m, hm⟩ : ∃ m, n = m + ((prog n t i).length + 1) := ⟨n - ((prog n t i).length + 1), by omega⟩
  have := acts_may n _ (by omega) (prog_may (by omega) h hi) (prog n t i).length 0 m (by omega)
  rw [← hm] at this
  exact this
theorem clients_may (n : Nat) (l : List (List Act)) (hl : l.length ≤ 64) (h : ∀ d ∈ l, f55 n d = some (0, 0)) : ∀ j k m, k + j = l.length → f38_12 n (m + (j + 1)) l l.length ((k : Nat) : Int) = some (0, 0) := by
  intro j
  induction j with
  | zero =>
    intro k m hk
    rw [show m + (0 + 1) = m + 1 by omega, f38_12_eq, decide_eq_false (by omega)]
    rfl
  | succ j ih =>
    intro k m hk
    have hk' : k < l.length := by omega
    have e : (Option.rec [] (fun val => val) l[((k : Nat) : Int).toNat]? : List Act) = l.getD k [] := by
      rw [show ((k : Nat) : Int).toNat = k from rfl, List.getElem?_eq_getElem hk']
      simp [hk']
    rw [show m + (j + 1 + 1) = (m + (j + 1)) + 1 by omega, f38_12_eq, decide_eq_true (by omega), decide_eq_true (by omega), e, h _ (getD_mem' hk')]
    simp only [cond_true, Option.bind_some, bne_self_eq_false, cond_false]
    rw [cast1 k (by omega)]
    exact ih (k + 1) m (by omega)
theorem step_may (n : Nat) {p : Int} (h0 : 0 ≤ p) (h1 : p ≤ 4611686018427387904) : f64 n ((7 : Int), p, (0 : Int)) = some false ∧ f64 n ((3 : Int), (0 : Int), (0 : Int)) = some false ∧ f64 n ((10 : Int), (0 : Int), (0 : Int)) = some false := by
  have h34 : f34 n p = some true := by
    rw [f34_eq]
    first
      | rw [decide_eq_true (show p ≥ 0 by omega), decide_eq_true (show p ≤ 4611686018427387904 by omega)]; rfl
      | rw [decide_eq_true (show 0 ≤ p by omega), decide_eq_true (show p ≤ 4611686018427387904 by omega)]; rfl
  refine ⟨?_, ?_, ?_⟩
  · rw [f64_eq, f65_eq]
    simp only [h34]
    rfl
  · rw [f64_eq, f65_eq]; rfl
  · rw [f64_eq, f65_eq]; rfl
theorem recipe_may {n : Nat} (hn : 100 ≤ n) {t : Tale} (h : May t) (k : Nat) : f54 n (rec1 n t k).2 = some (0, 0) := by
  have hp := h.pa
  obtain ⟨s1, s2, s3⟩ := step_may n hp.1 hp.2
  obtain ⟨m, rfl⟩ : ∃ m, n = m + 1 + 1 + 1 + 1 := ⟨n - 4, by omega⟩
  have w1 : IntKind.i64.wrap (0 + 1) = 1 := wI (n := 0 + 1) (by decide) (by decide)
  have w2 : IntKind.i64.wrap (1 + 1) = 2 := wI (n := 1 + 1) (by decide) (by decide)
  have w3 : IntKind.i64.wrap (2 + 1) = 3 := wI (n := 2 + 1) (by decide) (by decide)
  have e : f63a (m + 1 + 1 + 1 + 1) (rec1 (m + 1 + 1 + 1 + 1) t k).2 () = some (-1) := by
    unfold rec1
    rw [f63a_eq, f63a_4_eq]
    simp only [List.length_cons, List.length_nil, List.getD_cons_zero, Int.toNat_zero, s1, Option.bind_some, cond_false, w1]
    rw [f63a_4_eq]
    simp only [List.length_cons, List.length_nil, List.getD_cons_succ, List.getD_cons_zero, show (1 : Int).toNat = 1 from rfl, s2, Option.bind_some, cond_false, w2]
    rw [f63a_4_eq]
    simp only [List.length_cons, List.length_nil, List.getD_cons_succ, List.getD_cons_zero, show (2 : Int).toNat = 2 from rfl, s3, Option.bind_some, cond_false, w3]
    rw [f63a_4_eq]
    rfl
  rw [f54_eq, e]
  rfl
theorem recipes_may {n : Nat} (l : List Rec) (hl : l.length ≤ 64) (h : ∀ d ∈ l, f53 n d.1 = some 0 ∧ f54 n d.2 = some (0, 0)) : ∀ j k m, k + j = l.length → f37_4 n (m + (j + 1)) l l.length ((k : Nat) : Int) = some (0, 0) := by
  intro j
  induction j with
  | zero =>
    intro k m hk
    rw [show m + (0 + 1) = m + 1 by omega, f37_4_eq, decide_eq_false (by omega)]
    rfl
  | succ j ih =>
    intro k m hk
    have hd := h _ (getD_mem' (d := ((0, ByteArray.empty), [])) (show k < l.length by omega))
    rw [show m + (j + 1 + 1) = (m + (j + 1)) + 1 by omega, f37_4_eq, decide_eq_true (by omega), decide_eq_true (by omega), show ((k : Nat) : Int).toNat = k from rfl, hd.1, hd.2]
    simp only [cond_true, Option.bind_some, bne_self_eq_false, cond_false]
    rw [cast1 k (by omega)]
    exact ih (k + 1) m (by omega)
theorem ready_may (n : Nat) (s : Int) : ∃ z, f39o n 0 s [] = some (Sum.inr (((), 0), z)) := by
  have e : f56o n [] = some ((), (([] : List Int), ())) := by
    rw [f56o_eq, decide_eq_true (show (0 + ([] : List Int).length) * 8 ≤ maxBytes by simp)]
    simp only [cond_true, List.nil_append, both_self]
    rfl
  rw [f39o_eq, f57o_eq, e]
  exact ⟨_, rfl⟩
/-- The parts of a script that may be, but for the configuration. -/
theorem parts_may {n : Nat} (hn : 1000 ≤ n) {t : Tale} (h : May t) : f37 n (recs n t) = some (0, 0) ∧ f38 n (clis n t) = some (0, 0) := by
  obtain ⟨k, hk, k1, k2⟩ := nat_of h.ke
  obtain ⟨l, hl, l1, l2⟩ := nat_of h.cl
  have e1 : (recs n t).length = k := by unfold recs; rw [flat1_len, hk]; rfl
  have e2 : (clis n t).length = l := by unfold clis; rw [flat1_len, hl]; rfl
  refine ⟨?_, ?_⟩
  · rw [f37_eq]
    obtain ⟨m, hm⟩ : ∃ m, n = m + (k + 1) := ⟨n - (k + 1), by omega⟩
    have := recipes_may (n := n) (recs n t) (by omega) (fun d hd => by
      obtain ⟨i, hi, rfl⟩ := flat1_mem hd
      rw [hk] at hi
      have hs : (kOf n ((i : Nat) : Int)).2.size ≤ 64 := key_small (by omega) (by omega)
      have h53 := key_may (n := n) hs
      have e : (rec1 n t i).1 = kOf n ((i : Nat) : Int) := by unfold rec1; dsimp only
      rw [← e] at h53
      exact ⟨h53, recipe_may (by omega) h i⟩) k 0 m (by omega)
    rw [← hm] at this
    exact this
  · rw [f38_eq, decide_eq_false (by omega), cond_false, show ((↑(clis n t).length : Int) == 0) = false from beq_false_of_ne (by omega), cond_false]
    obtain ⟨m, hm⟩ : ∃ m, n = m + (l + 1) := ⟨n - (l + 1), by omega⟩
    have := clients_may n (clis n t) (by omega) (fun d hd => by
      obtain ⟨i, hi, rfl⟩ := flat1_mem hd
      rw [hl] at hi
      exact client_may hn h (by omega)) l 0 m (by omega)
    rw [← hm] at this
    exact this
end Go.Proofs.YtaakmifjkobkgaaDoor
