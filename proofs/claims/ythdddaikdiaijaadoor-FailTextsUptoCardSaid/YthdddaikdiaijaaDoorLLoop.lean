/- A loop by fuel: an invariant from its first step to its end. -/
import Derived.Test.YthdddaikdiaijaaDoorL0
namespace Go.Rf
/-- Each round keeps the invariant and takes no more than so much fuel: so all rounds do. -/
theorem loopN {σ R : Type} {G : Nat → Nat → σ → Option R} {I : Nat → σ → Prop} {len c : Nat}
    (step : ∀ m i s, i < len → I i s → c ≤ m → ∃ s' m', I (i + 1) s' ∧ m ≤ m' + c ∧ G m i s = G m' (i + 1) s') :
    ∀ (k i m : Nat) (s : σ), i + k = len → I i s → k * c ≤ m → ∃ s' m', I len s' ∧ m ≤ m' + k * c ∧ G m i s = G m' len s' := by
  intro k
  induction k with
  | zero =>
    intro i m s hi hI _
    obtain rfl : i = len := by omega
    exact ⟨s, m, hI, by omega, rfl⟩
  | succ k ih =>
    intro i m s hi hI hm
    rw [Nat.add_mul, Nat.one_mul] at hm
    obtain ⟨s1, m1, h1, h2, h3⟩ := step m i s (by omega) hI (by omega)
    obtain ⟨s2, m2, h4, h5, h6⟩ := ih (i + 1) m1 s1 (by omega) h1 (by omega)
    refine ⟨s2, m2, h4, ?_, h3.trans h6⟩
    rw [Nat.add_mul, Nat.one_mul]
    omega
end Go.Rf
