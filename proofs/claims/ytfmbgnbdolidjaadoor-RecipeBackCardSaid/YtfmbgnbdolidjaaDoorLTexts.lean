/- The law RecipeTexts. -/
import Derived.Test.YtfmbgnbdolidjaaDoorLTold
namespace Go.Proofs.YtfmbgnbdolidjaaDoor
open Go.Rf Go.Lib
theorem fine_of {n : Nat} {s : Step} (h : f33 n s = some true) (hi : i64 s.2.1 ∧ i64 s.2.2) : Fine s := by
  obtain ⟨h1, _, _⟩ := may_out h
  exact ⟨by unfold kOf; omega, by unfold kOf; omega, by unfold kOf; omega, hi.1, hi.2⟩
theorem check_zero {n : Nat} {l : List Step} {r : Int × Int} (h : f16 n l = some r) (h0 : r.2 = 0) : r = (0, 0) := by
  rw [f16_eq] at h
  cases hb : decide ((l.length : Int) > 256) with
  | true =>
    rw [hb] at h
    cases h
    cases h0
  | false =>
    rw [hb] at h
    simp only [cond_false] at h
    cases hf : f31a n l () with
    | none => rw [hf] at h; cases h
    | some q =>
      rw [hf] at h
      simp only [Option.bind_some] at h
      cases hq : decide (q ≥ 0) with
      | true => rw [hq] at h; cases h; cases h0
      | false => rw [hq] at h; cases h; rfl
/-- What a recipe is told as. -/
theorem told_both {n : Nat} (hn : 10000 ≤ n) (l : List Step) (hi : ∀ s ∈ l, i64 s.2.1 ∧ i64 s.2.2) :
    (∃ r, r.2 ≠ 0 ∧ f16 n l = some r ∧ f7 n l = some r ∧ f6 n l = some (ByteArray.empty, r.1, r.2)) ∨
    (f16 n l = some (0, 0) ∧ f7 n l = some (0, 0) ∧ l.length ≤ 256 ∧ (∀ s ∈ l, f33 n s = some true) ∧ (∀ s ∈ l, Fine s) ∧ f6 n l = some (bs (jn (wordsL l)), 0, 0) ∧ f9 n l = some (bs (jn (wordsL l)))) := by
  obtain ⟨r, h1, h2⟩ := check_go (n := n) (by omega) l
  have h3 := h1
  rw [check_same (by omega)] at h3
  by_cases h0 : r.2 = 0
  · have hr := check_zero h1 h0
    subst hr
    obtain ⟨hl, hm⟩ := h2 rfl
    have hf : ∀ s ∈ l, Fine s := fun s hs => fine_of (hm s hs) (hi s hs)
    refine .inr ⟨h1, h3, hl, hm, hf, ?_, ?_⟩
    · rw [f6_eq, h1]
      simp only [Option.bind_some, bne_self_eq_false, cond_false]
      exact text_loop n l hl hf l.length 0 n (by omega) (by omega)
    · rw [f9_eq]
      exact ref_loop (by omega) l hl hf l.length 0 n (by omega) (by omega)
  · refine .inl ⟨r, h0, h1, h3, ?_⟩
    rw [f6_eq, h1]
    simp only [Option.bind_some]
    rw [show (r.2 != 0) = true from by simp [h0]]
    rfl
theorem awake_go {n : Nat} (hn : 12 ≤ n) : f5 n = some true := by
  obtain ⟨m, rfl⟩ : ∃ m, n = m + 12 := ⟨n - 12, by omega⟩
  exact awake_recipe m
theorem recipe_texts {n : Nat} {l : List Step} (s : Bytes) (hl : l.length * 24 ≤ 140737488351232) (hs : s.length ≤ 1048576) (hi : ∀ x ∈ l, i64 x.2.1 ∧ i64 x.2.2) (hn : l.length + 33554432 ≤ n) : f3 n l (bs s) = some true := by
  have hg : f8 n l = some l := by rw [f8_eq]; exact given_all n hl (by omega)
  obtain ⟨out, o1, o2, o3⟩ := texts_alike (n := n) (by omega) s hs
  have hsame : f12 n out.1 out.1 = some true := same_all (by omega) (by omega)
  rw [f3_eq, awake_go (by omega)]
  simp only [Option.bind_some, Bool.not_true, cond_false]
  rcases told_both (n := n) (by omega) l hi with ⟨r, h0, h1, h2, h3⟩ | ⟨h1, h2, h3, _, _, h4, h5⟩
  · rw [h3, hg]
    simp only [Option.bind_some]
    rw [h2]
    simp only [Option.bind_some, bne_self_eq_false, cond_false]
    rw [show (r.2 != 0) = true from by simp [h0], show (r.2 == 0) = false from by simp [h0]]
    simp only [cond_true, cond_false, beq_self_eq_true, Bool.not_true]
    rw [o1, o2]
    simp only [Option.bind_some]
    rw [hsame]
    simp only [Option.bind_some, cond_true, beq_self_eq_true]
  · rw [h4, hg]
    simp only [Option.bind_some]
    rw [h2]
    simp only [Option.bind_some, bne_self_eq_false, cond_false, beq_self_eq_true, cond_true]
    rw [h5, o1, o2]
    simp only [Option.bind_some, beq_self_eq_true, Bool.not_true, cond_false]
    rw [hsame]
    simp only [Option.bind_some, cond_true]
end Go.Proofs.YtfmbgnbdolidjaaDoor
