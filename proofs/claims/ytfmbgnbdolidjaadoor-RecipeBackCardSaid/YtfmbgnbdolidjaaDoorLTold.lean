/- Recipes as texts: both tell the same, and what is told is read. -/
import Derived.Test.YtfmbgnbdolidjaaDoorLBoth
namespace Go.Proofs.YtfmbgnbdolidjaaDoor
open Go.Rf Go.Lib
def kOf (s : Step) : Nat := s.1.toNat
def numsOf (s : Step) : List Int := [s.2.1, s.2.2].take (mn (kOf s))
def wordsOf (s : Step) : Ws := wd (kOf s) :: (numsOf s).map itoa
def wordsL (l : List Step) : Ws := l.flatMap wordsOf
structure Fine (s : Step) : Prop where
  k1 : 1 ≤ kOf s
  k2 : kOf s ≤ 12
  k : s.1 = ((kOf s : Nat) : Int)
  a : i64 s.2.1
  b : i64 s.2.2
theorem nums_len (s : Step) : (numsOf s).length = mn (kOf s) := by
  have := mn_le (kOf s)
  unfold numsOf
  simp
  omega
theorem nums_i64 {s : Step} (h : Fine s) : ∀ v ∈ numsOf s, i64 v := by
  intro v hv
  have := List.mem_of_mem_take hv
  simp only [List.mem_cons, List.not_mem_nil, or_false] at this
  rcases this with rfl | rfl
  · exact h.a
  · exact h.b
theorem fits16 {a : Nat} (h : a ≤ 100000) : decide ((a + 1) * 16 ≤ maxBytes) = true := by
  have : maxBytes = 140737488355328 := rfl
  rw [this]
  exact decide_eq_true (by omega)
theorem nums_told (n : Nat) (l : List Step) (L x25 : Int) (i : Nat) (hi : i ≤ 12) (x : Step) (xs : List Int) (hx : ∀ v ∈ xs, i64 v) (hxl : xs.length ≤ 2) : ∀ (r j m : Nat) (acc : List ByteArray), j + r = xs.length → acc.length + r ≤ 10000 → r + 1 ≤ m →
    f6_28 n m l L x25 forms 12 ((i : Nat) : Int) xs ((xs.length : Nat) : Int) ((j : Nat) : Int) acc x = f6_18 n (m - (r + 1)) l L x25 forms 12 ((i + 1 : Nat) : Int) (acc ++ (xs.drop j).map fun v => bs (itoa v)) x := by
  intro r
  induction r with
  | zero =>
    intro j m acc hj hacc hm
    obtain ⟨m, rfl⟩ : ∃ q, m = q + 1 := ⟨m - 1, by omega⟩
    rw [f6_28_eq, decide_eq_false (by omega), cond_false, castN (by omega), List.drop_of_length_le (by omega)]
    simp
  | succ r ih =>
    intro j m acc hj hacc hm
    obtain ⟨m, rfl⟩ : ∃ q, m = q + 1 := ⟨m - 1, by omega⟩
    have hm1 : xs.getD j 0 ∈ xs := getD_mem (by omega)
    have hf : decide ((acc.length + [bs (itoa (xs.getD j 0))].length) * (16 : Nat) ≤ maxBytes) = true := fits16 (by omega)
    rw [f6_28_eq, decide_eq_true (show ((j : Nat) : Int) < ((xs.length : Nat) : Int) by omega), decide_eq_true (show (0 : Int) ≤ ((j : Nat) : Int) ∧ ((j : Nat) : Int) < ((xs.length : Nat) : Int) by omega), Int.toNat_natCast, format_eq n (hx _ hm1)]
    simp only [cond_true, Option.bind_some]
    rw [hf, cond_true, castN (by omega), ih (j + 1) m _ (by omega) (by simp; omega) (by omega), getD_drop (d := (0 : Int)) (show j < xs.length by omega)]
    rw [show m + 1 - (r + 1 + 1) = m - (r + 1) by omega]
    simp
theorem forms_done (n : Nat) (l : List Step) (L x25 : Int) (x : Step) (h : Fine x) (acc : List ByteArray) : ∀ (j i m : Nat), i + j = 12 → kOf x ≤ i → j + 1 ≤ m →
    f6_18 n m l L x25 forms 12 ((i : Nat) : Int) acc x = f6_12 n (m - (j + 1)) l L (IntKind.i64.wrap (x25 + 1)) acc := by
  intro j
  induction j with
  | zero =>
    intro i m hi hk hm
    obtain ⟨m, rfl⟩ : ∃ q, m = q + 1 := ⟨m - 1, by omega⟩
    rw [f6_18_eq, decide_eq_false (by omega)]
    rfl
  | succ j ih =>
    intro i m hi hk hm
    obtain ⟨m, rfl⟩ : ∃ q, m = q + 1 := ⟨m - 1, by omega⟩
    have hk2 := h.k
    rw [f6_18_eq, decide_eq_true (show ((i : Nat) : Int) < 12 by omega), decide_eq_true (show (0 : Int) ≤ ((i : Nat) : Int) ∧ ((i : Nat) : Int) < (forms.length : Int) from ⟨by omega, by show ((i : Nat) : Int) < 12; omega⟩), Int.toNat_natCast, form_at (show i < 12 by omega), castN (by omega)]
    simp only [cond_true]
    rw [show (((i + 1 : Nat) : Int) != x.1) = true from by rw [hk2]; simp; omega, cond_true, ih (i + 1) m (by omega) (by omega) (by omega), show m + 1 - (j + 1 + 1) = m - (j + 1) by omega]
theorem forms_told (n : Nat) (l : List Step) (L x25 : Int) (x : Step) (h : Fine x) (acc : List ByteArray) (hacc : acc.length ≤ 9000) : ∀ (j i m : Nat), i + j = 12 → i < kOf x → j + mn (kOf x) + 2 ≤ m →
    f6_18 n m l L x25 forms 12 ((i : Nat) : Int) acc x = f6_12 n (m - (j + mn (kOf x) + 2)) l L (IntKind.i64.wrap (x25 + 1)) (acc ++ (wordsOf x).map bs) := by
  intro j
  have hk1 := h.k1
  have hk2 := h.k2
  induction j with
  | zero => intro i m hi hk; omega
  | succ j ih =>
    intro i m hi hk hm
    obtain ⟨m, rfl⟩ : ∃ q, m = q + 1 := ⟨m - 1, by omega⟩
    have hkx := h.k
    have hml := mn_le (kOf x)
    rw [f6_18_eq, decide_eq_true (show ((i : Nat) : Int) < 12 by omega), decide_eq_true (show (0 : Int) ≤ ((i : Nat) : Int) ∧ ((i : Nat) : Int) < (forms.length : Int) from ⟨by omega, by show ((i : Nat) : Int) < 12; omega⟩), Int.toNat_natCast, form_at (show i < 12 by omega), castN (by omega)]
    simp only [cond_true]
    by_cases e : kOf x = i + 1
    · have hf : decide ((acc.length + [bs (wd (i + 1))].length) * (16 : Nat) ≤ maxBytes) = true := fits16 (by omega)
      have hd : decide ((0 : Int) ≤ (0 : Int) ∧ (0 : Int) ≤ ((mn (i + 1) : Nat) : Int) ∧ ((mn (i + 1) : Nat) : Int) ≤ (((((List.replicate (2 : Nat) (0 : Int)).set (0 : Nat) x.snd.fst).set (1 : Nat) x.snd.snd).length : Nat) : Int)) = true :=
        decide_eq_true ⟨by omega, by omega, by rw [← e]; simp; omega⟩
      rw [show (((i + 1 : Nat) : Int) != x.1) = false from by rw [hkx, e]; simp, cond_false, hf, cond_true, hd, cond_true]
      have hn : List.drop (0 : Nat) (List.take (Int.toNat ((mn (i + 1) : Nat) : Int)) (((List.replicate (2 : Nat) (0 : Int)).set (0 : Nat) x.snd.fst).set (1 : Nat) x.snd.snd)) = numsOf x := by
        unfold numsOf
        rw [e]
        rfl
      have hl2 := nums_len x
      have := nums_told n l L x25 i (by omega) x (numsOf x) (nums_i64 h) (by omega) (numsOf x).length 0 m (acc ++ [bs (wd (i + 1))]) (by omega) (by simp; omega) (by omega)
      rw [hn]
      rw [show (0 : Int) = ((0 : Nat) : Int) from rfl, this, forms_done n l L x25 x h _ j (i + 1) _ (by omega) (by omega) (by omega)]
      rw [show m - ((numsOf x).length + 1) - (j + 1) = m + 1 - (j + 1 + mn (kOf x) + 2) by omega]
      congr 1
      unfold wordsOf
      rw [e]
      simp
    · rw [show (((i + 1 : Nat) : Int) != x.1) = true from by rw [hkx]; simp; omega, cond_true, ih (i + 1) m (by omega) (by omega) (by omega), show m + 1 - (j + 1 + mn (kOf x) + 2) = m - (j + mn (kOf x) + 2) by omega]
theorem words_len {l : List Step} : (wordsL l).length ≤ 3 * l.length := by
  induction l with
  | nil => exact Nat.le_refl _
  | cons s l ih =>
    have h1 := nums_len s
    have h2 := mn_le (kOf s)
    have : (wordsL (s :: l)).length = (numsOf s).length + 1 + (wordsL l).length := by
      show (wordsOf s ++ wordsL l).length = _
      simp [wordsOf]
      omega
    simp
    omega
theorem wd_len (k : Nat) : (wd k).length ≤ 6 := by unfold wd; split <;> decide
theorem tl_words {s : Step} (h : Fine s) : (tl (wordsOf s)).length ≤ 60 := by
  have h1 := itoa_len h.a
  have h2 := itoa_len h.b
  have h3 := mn_le (kOf s)
  have h4 := wd_len (kOf s)
  have h5 : (tl ((numsOf s).map itoa)).length ≤ 46 := by
    unfold numsOf
    rcases (show mn (kOf s) = 0 ∨ mn (kOf s) = 1 ∨ mn (kOf s) = 2 by omega) with h | h | h <;> rw [h] <;> simp [tl] <;> omega
  simp only [wordsOf, tl, List.length_cons, List.length_append]
  omega
theorem tl_wordsL : ∀ {l : List Step}, (∀ s ∈ l, Fine s) → (tl (wordsL l)).length ≤ 60 * l.length
  | [], _ => by simp [wordsL, tl]
  | s :: l, h => by
    have h1 := tl_words (h s (by simp))
    have h2 := tl_wordsL (l := l) (fun x hx => h x (by simp [hx]))
    have e : wordsL (s :: l) = wordsOf s ++ wordsL l := by simp [wordsL]
    rw [e, tl_append]
    simp
    omega
theorem jn_le (ws : Ws) : (jn ws).length ≤ (tl ws).length := by
  cases ws with
  | nil => exact Nat.le_refl _
  | cons w r => simp [jn, tl]
theorem map_bs (ws : Ws) : (ws.map bs).map (fun x => x.data.toList) = ws := by
  rw [List.map_map]
  exact List.map_id ws
theorem join_told (n : Nat) (ws : Ws) (h1 : ws.length ≤ 100000) (h2 : (jn ws).length ≤ 100000) : f19 n (ws.map bs) s6x0 = some (bs (jn ws)) := by
  show joinF (ws.map bs) (bs [32]) = _
  unfold joinF
  rw [map_bs, bs_list, jn_join, if_pos ⟨by simp; omega, by omega⟩]
  rfl
theorem wordsL_take {l : List Step} {i : Nat} (h : i < l.length) : wordsL (l.take (i + 1)) = wordsL (l.take i) ++ wordsOf (l.getD i s0) := by
  have e : l.take (i + 1) = l.take i ++ [l.getD i s0] := by
    rw [List.take_add_one, List.getD_eq_getElem?_getD, List.getElem?_eq_getElem h]
    simp
  rw [e]
  unfold wordsL
  rw [List.flatMap_append, List.flatMap_singleton]
theorem text_loop (n : Nat) (l : List Step) (hl : l.length ≤ 256) (hf : ∀ s ∈ l, Fine s) : ∀ (k i m : Nat), i + k = l.length → 20 * k + 1 ≤ m →
    f6_12 n m l ((l.length : Nat) : Int) ((i : Nat) : Int) ((wordsL (l.take i)).map bs) = some (bs (jn (wordsL l)), 0, 0) := by
  intro k
  induction k with
  | zero =>
    intro i m hi hm
    obtain ⟨m, rfl⟩ : ∃ q, m = q + 1 := ⟨m - 1, by omega⟩
    have h1 := words_len (l := l)
    have h2 := tl_wordsL hf
    have h3 := jn_le (wordsL l)
    rw [f6_12_eq, decide_eq_false (by omega), cond_false, List.take_of_length_le (by omega), join_told n _ (by omega) (by omega)]
    rfl
  | succ k ih =>
    intro i m hi hm
    obtain ⟨m, rfl⟩ : ∃ q, m = q + 1 := ⟨m - 1, by omega⟩
    have hi' : i < l.length := by omega
    have hx : l.getD i s0 ∈ l := by
      rw [List.getD_eq_getElem?_getD, List.getElem?_eq_getElem hi']
      simp
    have hF := hf _ hx
    have h1 := words_len (l := l.take i)
    have h2 := mn_le (kOf (l.getD i s0))
    have hk1 := hF.k1
    rw [List.length_take] at h1
    rw [f6_12_eq, decide_eq_true (show ((i : Nat) : Int) < ((l.length : Nat) : Int) by omega), decide_eq_true (show (0 : Int) ≤ ((i : Nat) : Int) ∧ ((i : Nat) : Int) < ((l.length : Nat) : Int) by omega), Int.toNat_natCast, forms_go]
    simp only [cond_true, Option.bind_some]
    have := forms_told n l ((l.length : Nat) : Int) ((i : Nat) : Int) (l.getD i s0) hF ((wordsL (l.take i)).map bs) (by simp; omega) 12 0 m (by omega) (by omega) (by omega)
    refine this.trans ?_
    rw [castN (by omega), ← List.map_append, ← wordsL_take hi']
    exact ih (i + 1) _ (by omega) (by omega)
/-! ### the document's text -/
theorem wd_ne {k : Nat} (h1 : 1 ≤ k) (h2 : k ≤ 12) : wd k ≠ [] := by
  rcases k_cases h1 h2 with rfl | rfl | rfl | rfl | rfl | rfl | rfl | rfl | rfl | rfl | rfl | rfl <;> decide
theorem jn_words {ws : Ws} {s : Step} : jn (ws ++ wordsOf s) = (if ws = [] then [] else jn ws ++ [32]) ++ (wd (kOf s) ++ tl ((numsOf s).map itoa)) := by
  cases ws with
  | nil => rfl
  | cons w r =>
    rw [if_neg (by simp)]
    show w ++ tl (r ++ wordsOf s) = _
    rw [tl_append]
    simp [wordsOf, tl, jn]
theorem jn_first {l : List Step} (h : ∀ s ∈ l, Fine s) : jn (wordsL l) = [] ↔ wordsL l = [] := by
  cases l with
  | nil => exact ⟨fun _ => rfl, fun _ => rfl⟩
  | cons s l =>
    have e : wordsL (s :: l) = wd (kOf s) :: ((numsOf s).map itoa ++ wordsL l) := by simp [wordsL, wordsOf]
    rw [e]
    constructor
    · intro hh
      have := List.append_eq_nil_iff.1 (show wd (kOf s) ++ tl ((numsOf s).map itoa ++ wordsL l) = [] from hh)
      exact (wd_ne (h s (by simp)).k1 (h s (by simp)).k2 this.1).elim
    · intro hh; cases hh
/-- One step's text, behind what was told. -/
theorem ref_step {n : Nat} (hn : 25 ≤ n) (l : List Step) (L : Int) (i : Nat) (hi : i ≤ 1000) (x : Step) (h : Fine x) (t : Bytes) (ht : t.length ≤ 100000) (m : Nat) :
    f9_17 n (m + 2) (bs t) (bs (wd (kOf x))) ((mn (kOf x) : Nat) : Int) l L ((i : Nat) : Int) x = f9_6 n m (bs (t ++ (wd (kOf x) ++ tl ((numsOf x).map itoa)))) l L ((i + 1 : Nat) : Int) := by
  have hw := wd_len (kOf x)
  have ha := itoa_len h.a
  have hb := itoa_len h.b
  have hm := mn_le (kOf x)
  rw [f9_17_eq, digits_eq hn h.a]
  simp only [Option.bind_some, bs_size]
  rw [show (s9x0 ++ bs (itoa x.snd.fst)) = bs (32 :: itoa x.snd.fst) from bs_append [32] _]
  simp only [bs_append, bs_size]
  rw [smallN (a := t.length + (wd (kOf x)).length) (by omega), smallN (a := 1 + (itoa x.snd.fst).length) (by omega), smallN (a := (t ++ wd (kOf x)).length + (32 :: itoa x.snd.fst).length) (by simp; omega)]
  simp only [cond_false]
  have step2 : ∀ u : Bytes, u.length ≤ 200000 → f9_23 n (m + 1) (bs u) ((mn (kOf x) : Nat) : Int) l L ((i : Nat) : Int) x = f9_6 n m (bs (u ++ (if 1 < mn (kOf x) then 32 :: itoa x.2.2 else []))) l L ((i + 1 : Nat) : Int) := by
    intro u hu
    rw [f9_23_eq, digits_eq hn h.b]
    simp only [Option.bind_some, bs_size]
    rw [show (s9x0 ++ bs (itoa x.snd.snd)) = bs (32 :: itoa x.snd.snd) from bs_append [32] _]
    simp only [bs_append, bs_size]
    rw [smallN (a := 1 + (itoa x.snd.snd).length) (by omega), smallN (a := u.length + (32 :: itoa x.snd.snd).length) (by simp; omega), castN (by omega)]
    simp only [cond_false]
    by_cases h2 : 1 < mn (kOf x)
    · rw [decide_eq_true (show ((mn (kOf x) : Nat) : Int) > 1 by omega), if_pos h2]
      rfl
    · rw [decide_eq_false (show ¬ ((mn (kOf x) : Nat) : Int) > 1 by omega), if_neg h2, List.append_nil]
      rfl
  rw [step2 _ (by simp; omega), step2 _ (by simp; omega)]
  rcases (show mn (kOf x) = 0 ∨ mn (kOf x) = 1 ∨ mn (kOf x) = 2 by omega) with e | e | e
  · rw [decide_eq_false (show ¬ ((mn (kOf x) : Nat) : Int) > 0 by omega), if_neg (by omega), cond_false]
    unfold numsOf
    rw [e]
    simp [tl]
  · rw [decide_eq_true (show ((mn (kOf x) : Nat) : Int) > 0 by omega), if_neg (by omega), cond_true]
    unfold numsOf
    rw [e]
    simp [tl]
  · rw [decide_eq_true (show ((mn (kOf x) : Nat) : Int) > 0 by omega), if_pos (by omega), cond_true]
    unfold numsOf
    rw [e]
    simp [tl]
theorem ref_loop {n : Nat} (hn : 25 ≤ n) (l : List Step) (hl : l.length ≤ 256) (hf : ∀ s ∈ l, Fine s) : ∀ (k i m : Nat), i + k = l.length → 3 * k + 1 ≤ m →
    f9_6 n m (bs (jn (wordsL (l.take i)))) l ((l.length : Nat) : Int) ((i : Nat) : Int) = some (bs (jn (wordsL l))) := by
  intro k
  induction k with
  | zero =>
    intro i m hi hm
    obtain ⟨m, rfl⟩ : ∃ q, m = q + 1 := ⟨m - 1, by omega⟩
    rw [f9_6_eq, decide_eq_false (by omega), cond_false, List.take_of_length_le (by omega)]
  | succ k ih =>
    intro i m hi hm
    obtain ⟨m, rfl⟩ : ∃ q, m = q + 3 := ⟨m - 3, by omega⟩
    have hi' : i < l.length := by omega
    have hx : l.getD i s0 ∈ l := by
      rw [List.getD_eq_getElem?_getD, List.getElem?_eq_getElem hi']
      simp
    have hF := hf _ hx
    have hft : ∀ s ∈ l.take i, Fine s := fun s hs => hf s (List.mem_of_mem_take hs)
    have h2 := tl_wordsL hft
    have h3 := jn_le (wordsL (l.take i))
    rw [List.length_take] at h2
    have hstep := ih (i + 1) m (by omega) (by omega)
    rw [wordsL_take hi', jn_words] at hstep
    rw [f9_6_eq, decide_eq_true (show ((i : Nat) : Int) < ((l.length : Nat) : Int) by omega), decide_eq_true (show (0 : Int) ≤ ((i : Nat) : Int) ∧ ((i : Nat) : Int) < ((l.length : Nat) : Int) by omega), Int.toNat_natCast, hF.k, word_at n hF.k1 hF.k2, bs_empty, eqBA]
    simp only [cond_true, Option.bind_some]
    by_cases e : wordsL (l.take i) = []
    · rw [decide_eq_true ((jn_first hft).2 e), if_pos e] at *
      simp only [Bool.not_true, cond_false]
      rw [ref_step hn l _ i (by omega) _ hF _ (by omega) m, (jn_first hft).2 e]
      exact hstep
    · rw [decide_eq_false (fun h => e ((jn_first hft).1 h)), bs_size, smallN (by omega), show (bs (jn (wordsL (l.take i))) ++ s9x0) = bs (jn (wordsL (l.take i)) ++ [32]) from bs_append _ _]
      simp only [Bool.not_false, cond_true, cond_false]
      rw [ref_step hn l _ i (by omega) _ hF _ (by simp; omega) m]
      rw [if_neg e] at hstep
      exact hstep
end Go.Proofs.YtfmbgnbdolidjaaDoor
