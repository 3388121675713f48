/- Waits behind a try are told alike. -/
import Derived.Test.YtnlnfmakcnadlaaLPart2
namespace Go.Proofs.Ytnlnfmakcnadlaa
open Go.Rf
abbrev Plan := Int × Int × Int × Int
theorem mix_nat : ∃ F : Int → Nat, (∀ n x, f29 n x = some (F x : Int)) ∧ (∀ n x, u64 x → f30 n x = some (F x : Int)) ∧ ∀ x, F x < 2 ^ 64 := by
  have key : ∀ x, ((mixF x).toNat : Int) = mixF x ∧ (mixF x).toNat < 2 ^ 64 := by
    intro x
    have h : u64 (mixF x) := xs_u64 _ _
    generalize mixF x = z at h
    have := h.1; have := h.2
    exact ⟨by omega, by omega⟩
  refine ⟨fun x => (mixF x).toNat, fun n x => ?_, fun n x h => ?_, fun x => (key x).2⟩
  · rw [(key x).1]; exact mix_go n x
  · rw [(key x).1, mix_ref, mix_same h]
def planOK (r : Plan) : Bool := decide (0 ≤ r.1 ∧ 0 ≤ r.2.1 ∧ 1 ≤ r.2.2.1 ∧ r.2.2.1 ≤ 64 ∧ 0 ≤ r.2.2.2 ∧ r.2.2.2 ≤ 256)
theorem may_go (n : Nat) (r : Plan) : f40 n r = some (planOK r) := by
  obtain ⟨a, b, c, d⟩ := r
  rw [f40_eq]
  simp only
  by_cases h1 : a ≥ 0
  · skip
    by_cases h2 : b ≥ 0
    · skip
      by_cases h3 : c ≥ 1
      · skip
        by_cases h4 : c ≤ 64
        · skip
          by_cases h5 : d ≥ 0
          · skip
            by_cases h6 : d ≤ 256
            · skip
              rw [decide_eq_true h1, decide_eq_true h2, decide_eq_true h3, decide_eq_true h4, decide_eq_true h5, decide_eq_true h6, show planOK (a, b, c, d) = true from decide_eq_true (show 0 ≤ a ∧ 0 ≤ b ∧ 1 ≤ c ∧ c ≤ 64 ∧ 0 ≤ d ∧ d ≤ 256 by omega)]; rfl
            · rw [decide_eq_true h1, decide_eq_true h2, decide_eq_true h3, decide_eq_true h4, decide_eq_true h5, decide_eq_false h6, show planOK (a, b, c, d) = false from decide_eq_false (fun h : 0 ≤ a ∧ 0 ≤ b ∧ 1 ≤ c ∧ c ≤ 64 ∧ 0 ≤ d ∧ d ≤ 256 => by omega)]; rfl
          · rw [decide_eq_true h1, decide_eq_true h2, decide_eq_true h3, decide_eq_true h4, decide_eq_false h5, show planOK (a, b, c, d) = false from decide_eq_false (fun h : 0 ≤ a ∧ 0 ≤ b ∧ 1 ≤ c ∧ c ≤ 64 ∧ 0 ≤ d ∧ d ≤ 256 => by omega)]; rfl
        · rw [decide_eq_true h1, decide_eq_true h2, decide_eq_true h3, decide_eq_false h4, show planOK (a, b, c, d) = false from decide_eq_false (fun h : 0 ≤ a ∧ 0 ≤ b ∧ 1 ≤ c ∧ c ≤ 64 ∧ 0 ≤ d ∧ d ≤ 256 => by omega)]; rfl
      · rw [decide_eq_true h1, decide_eq_true h2, decide_eq_false h3, show planOK (a, b, c, d) = false from decide_eq_false (fun h : 0 ≤ a ∧ 0 ≤ b ∧ 1 ≤ c ∧ c ≤ 64 ∧ 0 ≤ d ∧ d ≤ 256 => by omega)]; rfl
    · rw [decide_eq_true h1, decide_eq_false h2, show planOK (a, b, c, d) = false from decide_eq_false (fun h : 0 ≤ a ∧ 0 ≤ b ∧ 1 ≤ c ∧ c ≤ 64 ∧ 0 ≤ d ∧ d ≤ 256 => by omega)]; rfl
  · rw [decide_eq_false h1, show planOK (a, b, c, d) = false from decide_eq_false (fun h : 0 ≤ a ∧ 0 ≤ b ∧ 1 ≤ c ∧ c ≤ 64 ∧ 0 ≤ d ∧ d ≤ 256 => by omega)]; rfl
theorem check_go (n : Nat) (r : Plan) : f42 n r = some (bif planOK r then 0 else 170) := by
  obtain ⟨a, b, c, d⟩ := r
  rw [f42_eq]
  simp only
  by_cases h1 : a < 0
  · rw [decide_eq_true h1, show planOK (a, b, c, d) = false from decide_eq_false (fun h : 0 ≤ a ∧ 0 ≤ b ∧ 1 ≤ c ∧ c ≤ 64 ∧ 0 ≤ d ∧ d ≤ 256 => by omega)]; rfl
  · skip
    by_cases h2 : b < 0
    · rw [decide_eq_false h1, decide_eq_true h2, show planOK (a, b, c, d) = false from decide_eq_false (fun h : 0 ≤ a ∧ 0 ≤ b ∧ 1 ≤ c ∧ c ≤ 64 ∧ 0 ≤ d ∧ d ≤ 256 => by omega)]; rfl
    · skip
      by_cases h3 : c < 1
      · rw [decide_eq_false h1, decide_eq_false h2, decide_eq_true h3, show planOK (a, b, c, d) = false from decide_eq_false (fun h : 0 ≤ a ∧ 0 ≤ b ∧ 1 ≤ c ∧ c ≤ 64 ∧ 0 ≤ d ∧ d ≤ 256 => by omega)]; rfl
      · skip
        by_cases h4 : c > 64
        · rw [decide_eq_false h1, decide_eq_false h2, decide_eq_false h3, decide_eq_true h4, show planOK (a, b, c, d) = false from decide_eq_false (fun h : 0 ≤ a ∧ 0 ≤ b ∧ 1 ≤ c ∧ c ≤ 64 ∧ 0 ≤ d ∧ d ≤ 256 => by omega)]; rfl
        · skip
          by_cases h5 : d < 0
          · rw [decide_eq_false h1, decide_eq_false h2, decide_eq_false h3, decide_eq_false h4, decide_eq_true h5, show planOK (a, b, c, d) = false from decide_eq_false (fun h : 0 ≤ a ∧ 0 ≤ b ∧ 1 ≤ c ∧ c ≤ 64 ∧ 0 ≤ d ∧ d ≤ 256 => by omega)]; rfl
          · skip
            by_cases h6 : d > 256
            · rw [decide_eq_false h1, decide_eq_false h2, decide_eq_false h3, decide_eq_false h4, decide_eq_false h5, decide_eq_true h6, show planOK (a, b, c, d) = false from decide_eq_false (fun h : 0 ≤ a ∧ 0 ≤ b ∧ 1 ≤ c ∧ c ≤ 64 ∧ 0 ≤ d ∧ d ≤ 256 => by omega)]; rfl
            · skip
              rw [decide_eq_false h1, decide_eq_false h2, decide_eq_false h3, decide_eq_false h4, decide_eq_false h5, decide_eq_false h6, show planOK (a, b, c, d) = true from decide_eq_true (show 0 ≤ a ∧ 0 ≤ b ∧ 1 ≤ c ∧ c ≤ 64 ∧ 0 ≤ d ∧ d ≤ 256 by omega)]; rfl
/-- What a time is doubled to, and that it is within the bound. -/
theorem double_val {n : Nat} (hn : 66 ≤ n) {d times most : Int} (hd : i64 d) (hm : i64 most) (h0 : 0 ≤ d) (h1 : 0 ≤ most) (h2 : 0 ≤ times) :
    ∃ W : Nat, f58 n d times most = some ((W : Int), 0) ∧ f59 n d times most = some ((W : Int), 0) ∧ (W : Int) ≤ most := by
  obtain ⟨ha, _⟩ := double_alike hn (times := times) hd hm
  rw [ha]
  obtain ⟨k, rfl⟩ := Int.eq_ofNat_of_zero_le h2
  rw [f59_eq, decide_eq_false (show ¬ d < 0 by omega), decide_eq_false (show ¬ most < 0 by omega), decide_eq_false (show ¬ (k : Int) < 0 by omega)]
  simp only [cond_false]
  by_cases h4 : d = 0
  · subst h4
    have := double_zero (times := k) h1 hm.2 n 64 0 n (by omega) (by omega) (by omega)
    rw [show ((0 : Nat) : Int) = 0 from rfl] at this
    exact ⟨0, this, this, by omega⟩
  · have hl := double_loop (times := k) (most := most) h1 hm.2 n k 0 n d (by omega) (by omega) (by rw [Int.pow_zero]; omega) hd.2
    rw [show ((0 : Nat) : Int) = 0 from rfl] at hl
    have hp := pow_pos2 k
    have hpos : 0 ≤ d * 2 ^ k := Int.mul_nonneg h0 (by omega)
    have ht : 0 ≤ twice d most k ∧ twice d most k ≤ most := by
      unfold twice
      split <;> omega
    refine ⟨(twice d most k).toNat, ?_, ?_, ?_⟩
    · rw [hl, Int.toNat_of_nonneg ht.1]
    · rw [hl, Int.toNat_of_nonneg ht.1]
    · rw [Int.toNat_of_nonneg ht.1]; exact ht.2
theorem waits_alike {n : Nat} (hn : 200 ≤ n) {r : Plan} (hb : i64 r.1) (hm : i64 r.2.1) {a seed : Int} :
    ∃ v more e, f37 n r a seed = some (v, more, e) ∧ f38 n r a seed = some (v, more, e) ∧ (e = 0 → planOK r = true ∧ 0 ≤ v ∧ v ≤ r.2.1) ∧ (planOK r = true → 1 ≤ a → e = 0) := by
  rw [f37_eq, f38_eq, may_go, check_go]
  cases hok : planOK r with
  | false => exact ⟨0, false, 170, rfl, rfl, fun h => (by cases h), fun h => by cases h⟩
  | true =>
    have hp := of_decide_eq_true hok
    obtain ⟨p1, p2, p3, p4, p5, p6⟩ := hp
    by_cases h1 : a < 1
    · refine ⟨0, false, 1, ?_, ?_, fun h => (by cases h), fun _ h => by omega⟩
      · rw [decide_eq_true h1]; rfl
      · rw [decide_eq_true h1]; rfl
    · by_cases h2 : a ≥ r.2.2.1
      · refine ⟨0, false, 0, ?_, ?_, fun _ => ⟨rfl, by omega, p2⟩, fun _ _ => rfl⟩
        · rw [decide_eq_false h1, decide_eq_true h2]; rfl
        · rw [decide_eq_false h1, decide_eq_true h2]; rfl
      · obtain ⟨F, hF, hG, hB⟩ := mix_nat
        have hF1 := hF n (IntKind.u64.wrap (seed + IntKind.u64.wrap a))
        have hG1 := hG n (IntKind.u64.wrap (seed + IntKind.u64.wrap a)) (wU_u64 _)
        have hMl := hB (IntKind.u64.wrap (seed + IntKind.u64.wrap a))
        clear hF hG hB
        generalize F (IntKind.u64.wrap (seed + IntKind.u64.wrap a)) = M at hF1 hG1 hMl
        obtain ⟨W, w1, w2, w3⟩ := double_val (show 66 ≤ n by omega) (times := a - 1) hb hm p1 p2 (by omega)
        obtain ⟨S, hS⟩ := Int.eq_ofNat_of_zero_le p5
        have hm2 := hm.2
        obtain ⟨o1, o2⟩ := off_go n (w := W) (spread := S) (by omega) (by omega) hF1 hMl
        have q1 : W * S ≤ W * 256 := Nat.mul_le_mul_left _ (by omega)
        have r1 := part_ref hn (w := W) (t := S) (s := 8) (by omega) (by omega) (by decide)
        have hsmall : W * S / 2 ^ 8 < 2 ^ 64 := by omega
        have r2 := part_ref hn (w := W * S / 2 ^ 8) (t := M / 2 ^ 32) (s := 32) hsmall (by omega) (by decide)
        have hoff : W * S / 2 ^ 8 * (M / 2 ^ 32) / 2 ^ 32 % 2 ^ 64 = offF W S (M / 2 ^ 32) := Nat.mod_eq_of_lt (by
          have : offF W S (M / 2 ^ 32) < 2 ^ 64 := by omega
          exact this)
        rw [hoff] at r2
        rw [Nat.mod_eq_of_lt hsmall] at r1
        have hlot : IntKind.u64.wrap (Int.tdiv (M : Int) 4294967296) = ((M / 2 ^ 32 : Nat) : Int) := by
          rw [td32 ⟨by omega, by omega⟩]
          rfl
        refine ⟨(W : Int) - (offF W S (M / 2 ^ 32) : Nat), true, 0, ?_, ?_, fun _ => ⟨rfl, by omega, by omega⟩, fun _ _ => rfl⟩
        · rw [decide_eq_false h1, decide_eq_false h2, wI (n := a - 1) (by omega) (by omega), w1, hS]
          rw [Option.bind_some]
          show Option.bind (f76 n W S a seed) _ = _
          rw [o1, Option.bind_some, wI (by omega) (by omega)]
        · rw [decide_eq_false h1, decide_eq_false h2, wI (n := a - 1) (by omega) (by omega), w2, hS, hG1]
          have r1' : f77 n W S 8 = some ((W * S / 2 ^ 8 : Nat) : Int) := r1
          have r2' : f77 n ((W * S / 2 ^ 8 : Nat) : Int) ((M / 2 ^ 32 : Nat) : Int) 32 = some (offF W S (M / 2 ^ 32) : Int) := r2
          simp only [Option.bind_some, Bool.not_true, cond_false]
          rw [wUn (a := W) (by omega), wUn (a := S) (by omega), r1']
          rw [Option.bind_some]
          rw [hlot]
          rw [r2']
          rw [Option.bind_some]
          rw [
            wI (n := ((offF W S (M / 2 ^ 32) : Nat) : Int)) (by omega) (by omega), wI (by omega) (by omega)]
theorem awake_retry (n : Nat) : f41 n = some true := by kernel_rfl
theorem plan_go (n : Nat) (r : Plan) : f39 n r = some r := f39_eq n r
theorem retry_waits {n : Nat} (hn : 200 ≤ n) {r : Plan} (hb : i64 r.1) (hm : i64 r.2.1) {a seed : Int} : f7 n r a seed = some true := by
  obtain ⟨v, more, e, h1, h2, h3, _⟩ := waits_alike hn hb hm (a := a) (seed := seed)
  rw [f7_eq, h1, plan_go, Option.bind_some, Option.bind_some, h2, Option.bind_some, Option.bind_some, may_go, check_go, awake_retry, Option.bind_some]
  cases hok : planOK r with
  | false =>
    have he : e ≠ 0 := fun h => by have := (h3 h).1; rw [hok] at this; cases this
    simp only [cond_false, Option.bind_some, cond_true, beq_self_eq_true]
    rw [show (e != 0) = true by simp [he]]
    rfl
  | true =>
    simp only [Option.bind_some, cond_true, beq_self_eq_true]
    by_cases he : e = 0
    · obtain ⟨_, h4, h5⟩ := h3 he
      subst he
      rw [decide_eq_true h4, decide_eq_true h5]
      rfl
    · rw [show (e != 0) = true by simp [he]]
      rfl
end Go.Proofs.Ytnlnfmakcnadlaa
