/- Sums up to a tick. -/
import Derived.Test.YtnlnfmakcnadlaaLSum
namespace Go.Proofs.Ytnlnfmakcnadlaa
open Go.Rf
theorem after_alike (n : Nat) (t d : Int) : f33 n t d = f34 n t d := by
  rw [f33_eq, f34_eq]
  simp only [is_go, is_ref]
theorem after_some (n : Nat) (t d : Int) : ∃ r, f33 n t d = some r := by
  rw [f33_eq]
  simp only [is_go, Option.bind_some, cond_eq_ite]
  split
  · exact ⟨_, rfl⟩
  · split
    · exact ⟨_, rfl⟩
    · split <;> exact ⟨_, rfl⟩
theorem ticks_sums {n : Nat} {l : List Int} (hl : l.length ≤ maxLen) (hw : ∀ x ∈ l, i64 x) (hn : 2 * l.length + 2 ≤ n) (t d : Int) : f6 (n + 4) t d l = some true := by
  obtain ⟨r, hr⟩ := after_some (n + 4) t d
  rw [f6_eq]
  simp only [← after_alike, hr, sum_go hl hw (show l.length < n + 4 by omega), sum_ref hl hw (show 2 * l.length + 2 ≤ n + 4 by omega), awake_tick, Option.bind_some, cond_true, beq_self_eq_true]
end Go.Proofs.Ytnlnfmakcnadlaa
