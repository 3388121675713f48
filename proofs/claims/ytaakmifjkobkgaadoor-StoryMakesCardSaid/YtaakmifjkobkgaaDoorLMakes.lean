/- A tale's script is the document's, and may be played if its configuration may: the plain law StoryMakes. -/
import Derived.Test.YtaakmifjkobkgaaDoorGe
import Derived.Test.YtaakmifjkobkgaaDoorLProg
namespace Go.Proofs.YtaakmifjkobkgaaDoor
open Go.Rf Go.Lib
abbrev Conf := Int × (Int × (Int × (Int × (Int × (Int × Int)))))
abbrev Rec := Key × List (Int × (Int × Int))
abbrev Script := Conf × (List Rec × (List (List Act) × (Int × (Int × List Int))))
noncomputable def rec1 (n : Nat) (t : Tale) (k : Nat) : Rec := (kOf n ((k : Nat) : Int), [((7 : Int), t.2.2.2.2.1, (0 : Int)), ((3 : Int), (0 : Int), (0 : Int)), ((10 : Int), (0 : Int), (0 : Int))])
noncomputable def recs (n : Nat) (t : Tale) : List Rec := (List.range' 0 t.2.2.2.1.toNat).flatMap fun k => [rec1 n t k]
noncomputable def clis (n : Nat) (t : Tale) : List (List Act) := (List.range' 0 t.2.1.toNat).flatMap fun i => [prog n t i]
noncomputable def scr (n : Nat) (t : Tale) (c : Conf) : Script := (c, recs n t, clis n t, (0 : Int), t.2.2.2.2.2, [])
theorem nat_of {a : Int} (h : 1 ≤ a ∧ a ≤ 64) : ∃ c : Nat, a = (c : Int) ∧ 1 ≤ c ∧ c ≤ 64 := by
  obtain ⟨c, hc⟩ := Int.eq_ofNat_of_zero_le (show 0 ≤ a by omega)
  exact ⟨c, hc, by omega, by omega⟩
theorem go_make {n : Nat} (hn : 200 ≤ n) {t : Tale} (h : May t) (h1 : 1 ≤ t.1) (h6 : t.1 ≤ 6) (c : Conf) (hck : f20 n t = some 0) : f17L n t c = some (scr n t c, 0) := by
  obtain ⟨k, hk, k1, k2⟩ := nat_of h.ke
  obtain ⟨l, hl, l1, l2⟩ := nat_of h.cl
  obtain ⟨m, hm⟩ : ∃ m, n = (m + 1 + l + 1) + k := ⟨n - k - l - 2, by omega⟩
  have loop1 := loopP (G := fun m j acc => f17L_12 n m k j t ((0 : Int), (0 : Int), (0 : Int), (0 : Int), (0 : Int), (0 : Int), (0 : Int)) 0 0 c 0 t.2.2.2.2.2 [] [] [] acc [] []) (p := fun k => [rec1 n t k]) (len := k) (fun j _ => by simp) (fun m j acc hj ha => by
    rw [f17L_12_eq, decide_eq_true (by omega), both_self, (key_is (n := n) (by omega) (i := ((j : Nat) : Int)) ⟨by omega, by omega⟩).1]
    simp only [cond_true, Option.bind_some]
    rw [fits_n ha (by simp) (by omega), cond_true, cast1 j (by omega)]
    rfl) k 0 (m + 1 + l + 1) [] (by omega) (by simp; omega)
  rw [← hm] at loop1
  have loop2 := loopP (G := fun m j acc => f17L_24 n m l j ((0 : Int), (0 : Int), (0 : Int), (0 : Int), (0 : Int), (0 : Int), (0 : Int)) 0 0 c 0 t.2.2.2.2.2 t [] [] [] (recs n t) acc []) (p := fun i => [prog n t i]) (len := l) (fun j _ => by simp) (fun m j acc hj ha => by
    rw [f17L_24_eq, decide_eq_true (by omega), go_program (by omega) h h1 h6 (show j < 64 by omega)]
    simp only [cond_true, Option.bind_some]
    rw [fits_n ha (by simp) (by omega), cond_true, cast1 j (by omega)]) l 0 (m + 1) [] (by omega) (by simp; omega)
  rw [f17L_eq, hck]
  simp only [Option.bind_some, bne_self_eq_false, cond_false]
  rw [hk]
  refine (show f17L_12 n n (k : Int) 0 t _ 0 0 c 0 t.2.2.2.2.2 [] [] [] [] [] [] = _ from loop1).trans ?_
  simp only [f17L_12_eq]
  rw [decide_eq_false (by omega), cond_false, hl]
  have e1 : ([] ++ (List.range' 0 k).flatMap fun k => [rec1 n t k]) = recs n t := by rw [recs, hk]; rfl
  rw [e1]
  refine loop2.trans ?_
  simp only [f17L_24_eq]
  rw [decide_eq_false (by omega), cond_false]
  have e2 : ([] ++ (List.range' 0 l).flatMap fun i => [prog n t i]) = clis n t := by rw [clis, hl]; rfl
  rw [e2]
  rfl
theorem ref_make {n : Nat} (hn : 200 ≤ n) {t : Tale} (h : May t) (h1 : 1 ≤ t.1) (h6 : t.1 ≤ 6) (c : Conf) : f22 n t c = some (scr n t c) := by
  obtain ⟨k, hk, k1, k2⟩ := nat_of h.ke
  obtain ⟨l, hl, l1, l2⟩ := nat_of h.cl
  obtain ⟨m, hm⟩ : ∃ m, n = (m + 1 + l + 1) + k := ⟨n - k - l - 2, by omega⟩
  have loop1 := loopP (G := fun m j acc => f22_6 n m j t ((0 : Int), (0 : Int), (0 : Int), (0 : Int), (0 : Int), (0 : Int), (0 : Int)) 0 0 c 0 t.2.2.2.2.2 [] [] [] acc [] []) (p := fun k => [rec1 n t k]) (len := k) (fun j _ => by simp) (fun m j acc hj ha => by
    rw [f22_6_eq, decide_eq_true (by omega), both_self, (key_is (n := n) (by omega) (i := ((j : Nat) : Int)) ⟨by omega, by omega⟩).2]
    simp only [cond_true, Option.bind_some]
    rw [fits_n ha (by simp) (by omega), cond_true, cast1 j (by omega)]
    rfl) k 0 (m + 1 + l + 1) [] (by omega) (by simp; omega)
  rw [← hm] at loop1
  have loop2 := loopP (G := fun m j acc => f22_14 n m j t ((0 : Int), (0 : Int), (0 : Int), (0 : Int), (0 : Int), (0 : Int), (0 : Int)) 0 0 c 0 t.2.2.2.2.2 [] [] [] (recs n t) acc []) (p := fun i => [prog n t i]) (len := l) (fun j _ => by simp) (fun m j acc hj ha => by
    rw [f22_14_eq, decide_eq_true (by omega), ref_program (by omega) h h1 h6 (show j < 64 by omega)]
    simp only [cond_true, Option.bind_some]
    rw [fits_n ha (by simp) (by omega), cond_true, cast1 j (by omega)]) l 0 (m + 1) [] (by omega) (by simp; omega)
  rw [f22_eq]
  refine (show f22_6 n n 0 t _ 0 0 c 0 t.2.2.2.2.2 [] [] [] [] [] [] = _ from loop1).trans ?_
  simp only [f22_6_eq]
  rw [decide_eq_false (by omega), cond_false]
  have e1 : ([] ++ (List.range' 0 k).flatMap fun k => [rec1 n t k]) = recs n t := by rw [recs, hk]; rfl
  rw [e1]
  refine loop2.trans ?_
  simp only [f22_14_eq]
  rw [decide_eq_false (by omega), cond_false]
  have e2 : ([] ++ (List.range' 0 l).flatMap fun i => [prog n t i]) = clis n t := by rw [clis, hl]; rfl
  rw [e2]
  rfl
/-! ### the same script -/
theorem inner20 (n : Nat) (i : Int) (r : Rec) (x57 : List Rec) (x58 : Int) (x60 : Rec) (x62 : List Rec) (x63 : Int) (x65 : Rec) (x74 : List (Int × (Int × Int))) (x75 : Int) (x77 : List (Int × (Int × Int))) (x78 : Int) (x79 : Bool) (a b : Script) (hr : r.2.length ≤ 1000) :
    ∀ j k m, k + j = r.2.length → f21_20 n (m + (j + 1)) i ((k : Nat) : Int) x57 x58 x60 x62 x63 x65 x74 x75 x77 x78 x79 a b r r = f21_8 n m (IntKind.i64.wrap (i + 1)) a b := by
  intro j
  induction j with
  | zero =>
    intro k m hk
    rw [show m + (0 + 1) = m + 1 by omega, f21_20_eq, decide_eq_false (by omega)]
    rfl
  | succ j ih =>
    intro k m hk
    rw [show m + (j + 1 + 1) = (m + (j + 1)) + 1 by omega, f21_20_eq, decide_eq_true (by omega), decide_eq_true (by omega)]
    simp only [cond_true, bne_self_eq_false, cond_false]
    rw [cast1 k (by omega)]
    exact ih (k + 1) m (by omega)
theorem inner42 (n : Nat) (i : Int) (x : List Act) (x139 : List (List Act)) (x140 : Int) (x142 : List Act) (x144 : List (List Act)) (x145 : Int) (x147 : List Act) (a b : Script) (hr : x.length ≤ 1000) :
    ∀ j k m, k + j = x.length → f21_42 n (m + (j + 1)) i x x ((k : Nat) : Int) x139 x140 x142 x144 x145 x147 a b = f21_30 n m (IntKind.i64.wrap (i + 1)) a b := by
  intro j
  induction j with
  | zero =>
    intro k m hk
    rw [show m + (0 + 1) = m + 1 by omega, f21_42_eq, decide_eq_false (by omega)]
    rfl
  | succ j ih =>
    intro k m hk
    rw [show m + (j + 1 + 1) = (m + (j + 1)) + 1 by omega, f21_42_eq, decide_eq_true (by omega), decide_eq_true (by omega)]
    simp only [cond_true, bne_self_eq_false, cond_false, key_refl, Option.bind_some, Bool.not_true]
    rw [cast1 k (by omega)]
    exact ih (k + 1) m (by omega)
theorem getD_mem' {α : Type} {l : List α} {i : Nat} {d : α} (h : i < l.length) : l.getD i d ∈ l := by simp [h]
theorem same8 (n : Nat) (a b : Script) (hR : b.2.1 = a.2.1) (hl : a.2.1.length ≤ 1000) (hs : ∀ r ∈ a.2.1, r.2.length ≤ 3) :
    ∀ j i M, i + j = a.2.1.length → 5 * j + 1 ≤ M → ∃ M', M ≤ M' + 5 * j + 1 ∧ f21_8 n M ((i : Nat) : Int) a b = f21_30 n M' 0 a b := by
  intro j
  induction j with
  | zero =>
    intro i M hi hM
    obtain ⟨M, rfl⟩ : ∃ p, M = p + 1 := ⟨M - 1, by omega⟩
    refine ⟨M, by omega, ?_⟩
    rw [f21_8_eq, decide_eq_false (by omega)]
    rfl
  | succ j ih =>
    intro i M hi hM
    obtain ⟨M, rfl⟩ : ∃ p, M = p + 1 := ⟨M - 1, by omega⟩
    have hmem : (a.2.1.getD i ((0, ByteArray.empty), []) : Rec) ∈ a.2.1 := getD_mem' (by omega)
    have h3 := hs _ hmem
    rw [f21_8_eq, hR, decide_eq_true (by omega), decide_eq_true (by omega), both_self]
    simp only [cond_true, key_refl, Option.bind_some, Bool.not_true, cond_false, bne_self_eq_false, Int.toNat_natCast]
    generalize hr : (a.2.1.getD i ((0, ByteArray.empty), []) : Rec) = r at *
    obtain ⟨p, hp⟩ : ∃ p, M = p + (r.2.length + 1) := ⟨M - (r.2.length + 1), by omega⟩
    rw [hp]
    obtain ⟨M', h1, h2⟩ := ih (i + 1) p (by omega) (by omega)
    refine ⟨M', by omega, ?_⟩
    rw [← h2]
    have := inner20 n ((i : Nat) : Int) r a.2.1 i r a.2.1 i r r.2 ↑r.2.length r.2 ↑r.2.length false a b (by omega) r.2.length 0 p (by omega)
    rw [cast1 i (by omega)] at this
    exact this
theorem same30 (n : Nat) (a b : Script) (hR : b.2.2.1 = a.2.2.1) (hl : a.2.2.1.length ≤ 1000) (hs : ∀ r ∈ a.2.2.1, r.length ≤ 300) :
    ∀ j i M, i + j = a.2.2.1.length → 302 * j + 1 ≤ M → f21_30 n M ((i : Nat) : Int) a b = some true := by
  intro j
  induction j with
  | zero =>
    intro i M hi hM
    obtain ⟨M, rfl⟩ : ∃ p, M = p + 1 := ⟨M - 1, by omega⟩
    rw [f21_30_eq, decide_eq_false (by omega)]
    rfl
  | succ j ih =>
    intro i M hi hM
    obtain ⟨M, rfl⟩ : ∃ p, M = p + 1 := ⟨M - 1, by omega⟩
    have hmem : (a.2.2.1.getD i [] : List Act) ∈ a.2.2.1 := getD_mem' (by omega)
    have h3 := hs _ hmem
    rw [f21_30_eq, hR, decide_eq_true (by omega), decide_eq_true (by omega)]
    simp only [cond_true, cond_false, bne_self_eq_false, Int.toNat_natCast]
    generalize hr : (a.2.2.1.getD i [] : List Act) = r at *
    obtain ⟨p, hp⟩ : ∃ p, M = p + (r.length + 1) := ⟨M - (r.length + 1), by omega⟩
    rw [hp]
    have := inner42 n ((i : Nat) : Int) r a.2.2.1 i r a.2.2.1 i r a b (by omega) r.length 0 p (by omega)
    rw [cast1 i (by omega)] at this
    exact this.trans (ih (i + 1) p (by omega) (by omega))
theorem flat1_len {α : Type} (p : Nat → α) (k : Nat) : ((List.range' 0 k).flatMap fun i => [p i]).length = k := by
  have : (fun i => [p i]) = fun i => [p i] := rfl
  rw [show ((List.range' 0 k).flatMap fun i => [p i]) = (List.range' 0 k).map p by induction (List.range' 0 k) with | nil => rfl | cons x l ih => rw [List.flatMap_cons, ih]; rfl]
  simp
theorem flat1_mem {α : Type} {p : Nat → α} {k : Nat} {x : α} (h : x ∈ (List.range' 0 k).flatMap fun i => [p i]) : ∃ i, i < k ∧ x = p i := by
  obtain ⟨i, hi, hx⟩ := List.mem_flatMap.1 h
  rw [List.mem_range'_1] at hi
  exact ⟨i, by omega, by simpa using hx⟩
theorem prog_len (n : Nat) {t : Tale} (h : May t) (i : Nat) : (prog n t i).length ≤ 161 := by
  have h1 := pieces_len n h i
  have h2 := waits_len t
  have h3 : (ahead t i).length ≤ 1 := by unfold ahead; split <;> simp
  have h4 : (after t i).length ≤ 32 := by
    unfold after
    split
    · simp
    · split
      · exact h2
      · simp
  unfold prog
  rw [List.length_append, List.length_append]
  omega
theorem same_script {n : Nat} (hn : 20000 ≤ n) {t : Tale} (h : May t) (c c' : Conf) : f21 n (scr n t c) (scr n t c') = some true := by
  obtain ⟨k, hk, k1, k2⟩ := nat_of h.ke
  obtain ⟨l, hl, l1, l2⟩ := nat_of h.cl
  have e1 : (recs n t).length = k := by unfold recs; rw [flat1_len, hk]; rfl
  have e2 : (clis n t).length = l := by unfold clis; rw [flat1_len, hl]; rfl
  obtain ⟨M', g1, g2⟩ := same8 n (scr n t c) (scr n t c') rfl (by show (recs n t).length ≤ 1000; omega) (fun r hr => by
    obtain ⟨i, _, rfl⟩ := flat1_mem (show r ∈ recs n t from hr)
    exact Nat.le_refl 3) k 0 n (by show 0 + k = (recs n t).length; omega) (by omega)
  have g3 := same30 n (scr n t c) (scr n t c') rfl (by show (clis n t).length ≤ 1000; omega) (fun r hr => by
    obtain ⟨i, _, rfl⟩ := flat1_mem (show r ∈ clis n t from hr)
    have := prog_len n h i
    omega) l 0 M' (by show 0 + l = (clis n t).length; omega) (by omega)
  rw [f21_eq]
  simp only [scr, bne_self_eq_false, cond_false]
  exact g2.trans g3
end Go.Proofs.YtaakmifjkobkgaaDoor
