/- Which failures may be, and their order: the plain law of FailChecks; how many of each kind: the plain law of FailKinds. -/
import Derived.Test.YthdddaikdiaijaaDoorGb
import Derived.Test.YthdddaikdiaijaaDoorLLoop
namespace Go.Proofs.YthdddaikdiaijaaDoor
open Go.Rf
abbrev Fail := Int × (Int × Int)
/-- May a failure be? -/
def mayB (f : Fail) : Bool :=
  if f.1 = 0 then decide (f.2.1 = 0 ∧ f.2.2 = 0) else if f.1 = 1 ∨ f.1 = 2 then decide (1 ≤ f.2.2) else if f.1 = 3 ∨ f.1 = 4 then decide (f.2.1 = 0 ∧ f.2.2 = 0) else if f.1 = 5 then decide (f.2.1 = 0 ∧ 1 ≤ f.2.2) else false
theorem cases5 (k : Int) : k = 0 ∨ k = 1 ∨ k = 2 ∨ k = 3 ∨ k = 4 ∨ k = 5 ∨ (k ≠ 0 ∧ k ≠ 1 ∧ k ≠ 2 ∧ k ≠ 3 ∧ k ≠ 4 ∧ k ≠ 5) := by omega
theorem may_eq (n : Nat) (f : Fail) : f17 n f = some (mayB f) := by
  obtain ⟨k, c, r⟩ := f
  rw [f17_eq]
  rcases cases5 k with rfl | rfl | rfl | rfl | rfl | rfl | ⟨h0, h1, h2, h3, h4, h5⟩
  all_goals (by_cases hc : c = 0 <;> by_cases hr : r = 0 <;> by_cases hr1 : 1 ≤ r <;> simp_all [mayB, Bool.cond_eq_ite])
theorem check_eq (n : Nat) (f : Fail) : f18 n f = some (if mayB f = true then 0 else 30) := by
  obtain ⟨k, c, r⟩ := f
  rw [f18_eq]
  rcases cases5 k with rfl | rfl | rfl | rfl | rfl | rfl | ⟨h0, h1, h2, h3, h4, h5⟩
  all_goals (by_cases hc : c = 0 <;> by_cases hr : r = 0 <;> by_cases hr1 : 1 ≤ r <;> simp_all [mayB, Bool.cond_eq_ite])
theorem eqF {a b : Int} (h : ¬ a = b) : (a == b) = false := by simpa using h
theorem neT {a b : Int} (h : ¬ a = b) : (a != b) = true := by simpa using h
def cmp3 (a b : Int) : Int := if a < b then -1 else if a > b then 1 else 0
theorem less_eq (n : Nat) (a b : Int) : f31 n a b = some (cmp3 a b) := by
  rw [f31_eq]
  unfold cmp3
  by_cases h : a < b <;> by_cases h2 : a > b <;> simp [h, h2]
theorem compare_eq (n : Nat) (a b : Int) : f30 n a b = some (cmp3 a b) := by
  rw [f30_eq, f41_eq, f41_eq]
  unfold cmp3
  by_cases h : a < b <;> by_cases h2 : a > b <;> simp [h, h2]
theorem or_eq (n : Nat) (a b c : Int) : f29 (n + 4) [a, b, c] = some (if a ≠ 0 then a else if b ≠ 0 then b else c) := by
  rw [f29_eq, f29_6_eq]
  by_cases ha : a = 0
  · subst ha
    rw [show IntKind.i64.wrap (0 + 1) = 1 by decide, f29_6_eq]
    by_cases hb : b = 0
    · subst hb
      rw [show IntKind.i64.wrap (1 + 1) = 2 by decide, f29_6_eq]
      by_cases hc : c = 0
      · subst hc
        rw [show IntKind.i64.wrap (2 + 1) = 3 by decide, f29_6_eq]
        simp
      · simp [neT hc]
    · simp [neT hb, hb]
  · simp [neT ha, ha]
theorem order_eq (n : Nat) (f g : Fail) : f22 (n + 4) f g = f23 (n + 4) f g := by
  rw [f22_eq, f23_eq]
  simp only [compare_eq, less_eq, Option.bind_some]
  rw [or_eq]
  generalize cmp3 f.1 g.1 = a
  generalize cmp3 f.2.2 g.2.2 = b
  by_cases h1 : a = 0 <;> by_cases h2 : b = 0 <;> simp [h1, h2, Bool.cond_eq_ite]
theorem failChecks (n : Nat) (f g : Fail) (v : Int) : f5 (n + 4) f g v = some true := by
  have h23 : ∃ z, f23 (n + 4) f g = some z := by
    rw [f23_eq]
    simp only [less_eq, Option.bind_some]
    generalize cmp3 f.1 g.1 = a
    generalize cmp3 f.2.2 g.2.2 = b
    by_cases h1 : a = 0 <;> by_cases h2 : b = 0 <;> simp [h1, h2, Bool.cond_eq_ite]
  obtain ⟨z, hz⟩ := h23
  rw [f5_eq]
  simp only [f16_eq, may_eq, check_eq, Option.bind_some, f7L, f19_eq, f20_eq, f21_eq, order_eq, hz]
  obtain ⟨k, c, r⟩ := f
  cases hm : mayB (k, c, r)
  · simp
  · by_cases hv : v = 0 <;> by_cases hk : k = 0 <;> by_cases hc : c = 0 <;> by_cases hr : r = 0 <;> simp [hv, hk, hc, hr, Bool.cond_eq_ite] <;> (rw [Bool.eq_iff_iff]; simp_all)
/-- One failure is counted. -/
def tallyK (b : List Int) (f : Fail) : List Int := if 0 ≤ f.1 ∧ f.1 ≤ 5 then b.set f.1.toNat (IntKind.i64.wrap (b.getD f.1.toNat 0 + 1)) else b
def zeros6 : List Int := [0, 0, 0, 0, 0, 0]
theorem take_foldl (l : List Fail) (i : Nat) (h : i < l.length) : (l.take (i + 1)).foldl tallyK zeros6 = tallyK ((l.take i).foldl tallyK zeros6) (l.getD i ((0 : Int), (0 : Int), (0 : Int))) := by
  rw [List.take_succ_eq_append_getElem h, List.foldl_append]
  simp [List.getD_eq_getElem?_getD, List.getElem?_eq_getElem h]
theorem kinds_eq (l : List Fail) (hl : (l.length : Int) < 9223372036854775807) (n : Nat) (hn : l.length + 1 ≤ n) : f8 n l = some (l.foldl tallyK zeros6) := by
  have hrun := loopN (σ := List Int) (G := fun m i s => f8_6 n m l l.length i zeros6 s) (I := fun i s => s = (l.take i).foldl tallyK zeros6) (len := l.length) (c := 1)
    (by
      rintro m i s hi rfl hm
      obtain ⟨m, rfl⟩ : ∃ k, m = k + 1 := ⟨m - 1, by omega⟩
      refine ⟨_, m, rfl, by omega, ?_⟩
      show f8_6 n (m + 1) l l.length i zeros6 _ = f8_6 n m l l.length ((i + 1 : Nat) : Int) zeros6 _
      rw [f8_6_eq, take_foldl l i hi]
      have e1 : IntKind.i64.wrap ((i : Int) + 1) = ((i + 1 : Nat) : Int) := by rw [wI (by omega) (by omega)]; omega
      have e2 : ((i : Int) < l.length) = True := eq_true (by omega)
      have e3 : ((0 : Int) ≤ i) = True := eq_true (by omega)
      generalize (l.take i).foldl tallyK zeros6 = b
      rw [Int.toNat_natCast]
      generalize l.getD i ((0 : Int), (0 : Int), (0 : Int)) = f
      simp only [e1, e2, e3, and_self, decide_true, cond_true, ge_iff_le]
      unfold tallyK
      by_cases h0 : 0 ≤ f.1 <;> by_cases h5 : f.1 ≤ 5
      · have : f.1 < 6 := by omega
        simp [h0, h5, this]
      · have : ¬ f.1 < 6 := by omega
        simp [h0, h5, this]
      · simp [h0]
      · simp [h0]) l.length 0 n zeros6 (by omega) rfl (by omega)
  obtain ⟨s, m, hs, hm, h⟩ := hrun
  rw [f8_eq]
  refine h.trans ?_
  obtain ⟨m, rfl⟩ : ∃ k, m = k + 1 := ⟨m - 1, by omega⟩
  rw [f8_6_eq, hs, List.take_length]
  simp
theorem eqL_refl : ∀ l : List Int, eqL (eqD (.int .i64)) l l = true
  | [] => rfl
  | x :: l => by
    show ((x == x) && eqL (eqD (.int .i64)) l l) = true
    rw [eqL_refl l, beq_self_eq_true]
    rfl
theorem failKinds (l : List Fail) (hl : (l.length : Int) < 9223372036854775807) (n : Nat) (hn : l.length + 1 ≤ n) : f3 n l = some true := by
  have hrun := loopN (σ := List Int) (G := fun m i s => f3_6 n m l false i s) (I := fun i s => s = (l.take i).foldl tallyK zeros6) (len := l.length) (c := 1)
    (by
      rintro m i s hi rfl hm
      obtain ⟨m, rfl⟩ : ∃ k, m = k + 1 := ⟨m - 1, by omega⟩
      refine ⟨_, m, rfl, by omega, ?_⟩
      show f3_6 n (m + 1) l false i _ = f3_6 n m l false ((i + 1 : Nat) : Int) _
      rw [f3_6_eq, take_foldl l i hi]
      have e1 : IntKind.i64.wrap ((i : Int) + 1) = ((i + 1 : Nat) : Int) := by rw [wI (by omega) (by omega)]; omega
      have e2 : ((i : Int) < l.length) = True := eq_true (by omega)
      have e3 : ((0 : Int) ≤ i) = True := eq_true (by omega)
      generalize (l.take i).foldl tallyK zeros6 = b
      rw [Int.toNat_natCast]
      generalize l.getD i ((0 : Int), (0 : Int), (0 : Int)) = f
      simp only [e1, e2, e3, and_self, decide_true, cond_true, ge_iff_le]
      unfold tallyK
      by_cases h0 : 0 ≤ f.1 <;> by_cases h5 : f.1 ≤ 5
      · have : f.1 < 6 := by omega
        simp [h0, h5, this]
      · simp [h0, h5]
      · simp [h0]
      · simp [h0]) l.length 0 n zeros6 (by omega) rfl (by omega)
  obtain ⟨s, m, hs, hm, h⟩ := hrun
  rw [f3_eq]
  refine h.trans ?_
  obtain ⟨m, rfl⟩ : ∃ k, m = k + 1 := ⟨m - 1, by omega⟩
  rw [f3_6_eq, hs, List.take_length, kinds_eq l hl n hn]
  simp only [f7L, Option.bind_some, cond_true, cond_false, Int.lt_irrefl, decide_false]
  exact congrArg some (eqL_refl _)
end Go.Proofs.YthdddaikdiaijaaDoor
