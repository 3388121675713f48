/- Sorted, each once: what slices.Sort and slices.Compact make of whole numbers (no program in sight). -/
import Derived.Lib.SlicesCompact
namespace Go.Proofs.Ytapackaajegjnaa
open Go.Lib
theorem compact_up {zs : List Int} (hs : zs.Pairwise (· ≤ ·)) : ∀ m, m ≤ zs.length → (compactUpTo zs.toArray m).Pairwise (· < ·) ∧ (∀ x, x ∈ compactUpTo zs.toArray m ↔ ∃ j, j < m ∧ zs.toArray[j]! = x) := by
  intro m
  induction m with
  | zero =>
    intro _
    refine ⟨by simp [compactUpTo], fun x => ?_⟩
    simp [compactUpTo]
  | succ m ih =>
    intro hm
    obtain ⟨h1, h2⟩ := ih (by omega)
    have get : ∀ j, (h : j < zs.length) → zs.toArray[j]! = zs[j] := by
      intro j h
      simp [h]
    have mono : ∀ i j, i ≤ j → j < zs.length → zs.toArray[i]! ≤ zs.toArray[j]! := by
      intro i j hij hj
      rw [get i (by omega), get j hj]
      by_cases e : i = j
      · subst e; exact Int.le_refl _
      · exact (List.pairwise_iff_getElem.1 hs) i j (by omega) hj (by omega)
    rw [compactUpTo_succ]
    by_cases hk : keeps zs.toArray m = true
    · rw [if_pos hk]
      unfold keeps at hk
      have hk := of_decide_eq_true hk
      refine ⟨?_, fun x => ?_⟩
      · rw [List.pairwise_append]
        refine ⟨h1, by simp, fun a ha b hb => ?_⟩
        simp only [List.mem_singleton] at hb
        subst hb
        obtain ⟨j, hj, rfl⟩ := (h2 a).1 ha
        rcases hk with h0 | hne
        · omega
        · have h3 := mono j (m - 1) (by omega) (by omega)
          have h4 := mono (m - 1) m (by omega) (by omega)
          omega
      · rw [List.mem_append, h2]
        constructor
        · rintro (⟨j, hj, e⟩ | h)
          · exact ⟨j, by omega, e⟩
          · simp only [List.mem_singleton] at h
            exact ⟨m, by omega, h.symm⟩
        · rintro ⟨j, hj, e⟩
          by_cases hjm : j = m
          · right; subst hjm; simp [e]
          · exact .inl ⟨j, by omega, e⟩
    · rw [if_neg hk, List.append_nil]
      refine ⟨h1, fun x => ?_⟩
      rw [h2]
      constructor
      · rintro ⟨j, hj, e⟩; exact ⟨j, by omega, e⟩
      · rintro ⟨j, hj, e⟩
        by_cases hjm : j = m
        · subst hjm
          have hk2 : ¬ (j = 0 ∨ zs.toArray[j]! ≠ zs.toArray[j - 1]!) := by
            intro h
            exact hk (by unfold keeps; exact decide_eq_true h)
          have h5 : j ≠ 0 := fun h => hk2 (.inl h)
          have h6 : zs.toArray[j]! = zs.toArray[j - 1]! := Classical.byContradiction fun h => hk2 (.inr h)
          exact ⟨j - 1, by omega, by rw [← h6]; exact e⟩
        · exact ⟨j, by omega, e⟩
theorem compact_sorted {zs : List Int} (hs : zs.Pairwise (· ≤ ·)) : (compact zs).Pairwise (· < ·) ∧ ∀ x, x ∈ compact zs ↔ x ∈ zs := by
  obtain ⟨h1, h2⟩ := compact_up hs zs.length (Nat.le_refl _)
  refine ⟨h1, fun x => (h2 x).trans ?_⟩
  constructor
  · rintro ⟨j, hj, e⟩
    rw [← e]
    simp [hj]
  · intro hx
    obtain ⟨j, hj, e⟩ := List.mem_iff_getElem.1 hx
    exact ⟨j, hj, by simp [hj, e]⟩
theorem sorted (zs : List Int) : (zs.mergeSort fun x y => decide (x ≤ y)).Pairwise (· ≤ ·) := by
  have h := List.pairwise_mergeSort (le := fun x y : Int => decide (x ≤ y)) (fun a b c h1 h2 => by
    simp only [decide_eq_true_eq] at h1 h2 ⊢
    omega) (fun a b => by
    simp only [Bool.or_eq_true, decide_eq_true_eq]
    omega) zs
  exact h.imp fun h => of_decide_eq_true h
/-- Sorted, each once. -/
theorem each_once (zs : List Int) : (compact (zs.mergeSort fun x y => decide (x ≤ y))).Pairwise (· < ·) ∧ ∀ x, x ∈ compact (zs.mergeSort fun x y => decide (x ≤ y)) ↔ x ∈ zs := by
  obtain ⟨h1, h2⟩ := compact_sorted (sorted zs)
  exact ⟨h1, fun x => (h2 x).trans List.mem_mergeSort⟩
/-- Two lists of the same, each once, are as long. -/
theorem same_len {l k : List Int} (hl : l.Nodup) (hk : k.Nodup) (h : ∀ x, x ∈ l ↔ x ∈ k) : l.length = k.length :=
  ((List.perm_ext_iff_of_nodup hl hk).2 h).length_eq
end Go.Proofs.Ytapackaajegjnaa
