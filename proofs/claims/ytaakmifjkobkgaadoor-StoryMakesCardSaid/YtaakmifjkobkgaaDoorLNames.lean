/- Kinds have names, and names kinds: the plain law StoryNames. -/
import Derived.Test.YtaakmifjkobkgaaDoorGa
import Derived.Test.YtaakmifjkobkgaaDoorLLoop
namespace Go.Proofs.YtaakmifjkobkgaaDoor
open Go.Rf
theorem str_refl (b : ByteArray) : (b == b) = true := by
  rw [beq_toListBytes]
  simp
/-! ### awake -/
theorem key0 (n : Nat) : ∃ k, f15 n 0 = some k := by
  rw [f15_eq]
  have h : f29 n (if (0 : Int) > 0 then (0 : Int) else 0) = some ⟨#[48]⟩ := by kernel_rfl
  rw [h]
  exact ⟨_, rfl⟩
theorem herd1 (m : Nat) (i : Int) (k : Int × ByteArray) (hk : f15 (m + 2) 0 = some k) (x : Int × (Int × (Int × (Int × (Int × Int))))) (hx : x.2.2.1 = 1) : f43 (m + 2) x i = some [((1 : Int), k, (0 : Int), (0 : Int))] := by
  rw [f43_eq, hx, show m + 2 = (m + 1) + 1 from rfl, f43_6_eq]
  rw [show (m + 1) + 1 = m + 2 from rfl, hk]
  simp only [Option.bind_some]
  rw [f43_6_eq]
  rfl
theorem program1 (m : Nat) (i : Int) (k : Int × ByteArray) (hk : f15 (m + 2) 0 = some k) : f31 (m + 2) ((1 : Int), (2 : Int), (1 : Int), (1 : Int), (0 : Int), (0 : Int)) i = some [((1 : Int), k, (0 : Int), (0 : Int))] := by
  rw [f31_eq]
  simp only [show ((1 : Int) == 2) = false from rfl, show ((1 : Int) == 3) = false from rfl, show ((1 : Int) == 4) = false from rfl, show ((1 : Int) == 5) = false from rfl, show ((1 : Int) == 6) = false from rfl, cond_false]
  rw [herd1 m i k hk _ rfl]
  rfl
theorem herd_toList : s9x0.toList = [104, 101, 114, 100] := by rw [Lib.toList_data]; rfl
theorem empty_toList : ByteArray.empty.toList = [] := by rw [Lib.toList_data]; rfl
theorem check1 (n : Nat) : f20 n ((1 : Int), (2 : Int), (1 : Int), (1 : Int), (0 : Int), (0 : Int)) = some 0 := by
  rw [f20_eq, f9_eq]
  simp only [beq_self_eq_true, cond_true, Option.bind_some, herd_toList, empty_toList]
  rfl
theorem awake_true (m : Nat) : f8 (m + 6) = some true := by
  obtain ⟨k, hk⟩ := key0 (m + 6)
  have hp : ∀ i, f31 (m + 6) ((1 : Int), (2 : Int), (1 : Int), (1 : Int), (0 : Int), (0 : Int)) i = some [((1 : Int), k, (0 : Int), (0 : Int))] := fun i => program1 (m + 4) i k hk
  have w1 : IntKind.i64.wrap (0 + 1) = 1 := wI (n := 0 + 1) (by decide) (by decide)
  have w2 : IntKind.i64.wrap (1 + 1) = 2 := wI (n := 1 + 1) (by decide) (by decide)
  rw [f8_eq, f17_eq, check1]
  simp only [Option.bind_some, bne_self_eq_false, cond_false]
  rw [f17_12_eq, hk]
  simp only [Option.bind_some, both_self, w1]
  rw [f17_12_eq, f17_24_eq, hp, w1]
  simp only [Option.bind_some]
  rw [f17_24_eq, hp, w2]
  simp only [Option.bind_some]
  rw [f17_24_eq]
  show some (k.1 == k.1 && k.2 == k.2) = some true
  rw [str_refl]
  simp
/-! ### names -/
theorem names_toList : s9x0.toList = [104, 101, 114, 100] ∧ s9x1.toList = [116, 114, 105, 99, 107, 108, 101] ∧ s9x2.toList = [115, 116, 111, 114, 109] ∧ s9x3.toList = [108, 101, 97, 118, 101] ∧ s9x4.toList = [102, 111, 114, 103, 101, 116] ∧ s9x5.toList = [98, 97, 116, 99, 104] := by
  simp only [Lib.toList_data]
  exact ⟨rfl, rfl, rfl, rfl, rfl, rfl⟩
theorem names_same : s7x0 = s9x0 ∧ s7x1 = s9x1 ∧ s7x2 = s9x2 ∧ s7x3 = s9x3 ∧ s7x4 = s9x4 ∧ s7x5 = s9x5 := ⟨rfl, rfl, rfl, rfl, rfl, rfl⟩
theorem name_same (n : Nat) (k : Int) : f7 n k = f9 n k := by
  obtain ⟨e0, e1, e2, e3, e4, e5⟩ := names_same
  rw [f7_eq, f9_eq, e0, e1, e2, e3, e4, e5]
theorem name_some (n : Nat) (k : Int) : ∃ s, f9 n k = some s := by
  rw [f9_eq]
  have key : ∀ {b : Bool} {x y : Option ByteArray}, (∃ s, x = some s) → (∃ s, y = some s) → ∃ s, (bif b then x else y) = some s := by
    intro b x y h1 h2
    cases b
    · exact h2
    · exact h1
  exact key ⟨_, rfl⟩ (key ⟨_, rfl⟩ (key ⟨_, rfl⟩ (key ⟨_, rfl⟩ (key ⟨_, rfl⟩ (key ⟨_, rfl⟩ ⟨_, rfl⟩)))))
theorem kind_step (n m : Nat) (name : ByteArray) (k : Int) (w : ByteArray) (h0 : 0 ≤ k) (h6 : k ≤ 6) (hw : f9 n k = some w) :
    f6_4 n (m + 1) name k = bif w.toList == name.toList then some (k, true) else f6_4 n m name (k + 1) := by
  rw [f6_4_eq, decide_eq_true h6, hw, wI (n := k + 1) (by omega) (by omega)]
  rfl
theorem want_step (n m : Nat) (kd : Int) (name : ByteArray) (kk : Int) (ok : Bool) (want k : Int) (w : ByteArray) (h0 : 0 ≤ k) (h6 : k ≤ 6) (hw : f9 n k = some w) :
    f3_8 n (m + 1) kd name kk ok want k = f3_8 n m kd name kk ok (bif w.toList == name.toList then k else want) (k + 1) := by
  rw [f3_8_eq, decide_eq_true h6, name_same, hw, wI (n := k + 1) (by omega) (by omega)]
  simp only [cond_true, Option.bind_some]
  cases w.toList == name.toList <;> rfl
theorem f9_is (n : Nat) : f9 n 1 = some s9x0 ∧ f9 n 2 = some s9x1 ∧ f9 n 3 = some s9x2 ∧ f9 n 4 = some s9x3 ∧ f9 n 5 = some s9x4 ∧ f9 n 6 = some s9x5 := by
  simp only [f9_eq]
  exact ⟨rfl, rfl, rfl, rfl, rfl, rfl⟩
theorem law (m : Nat) (kind : Int) (name : ByteArray) : f3 (m + 10) kind name = some true := by
  obtain ⟨n1, n2, n3, n4, n5, n6⟩ := f9_is (m + 10)
  obtain ⟨t1, t2, t3, t4, t5, t6⟩ := names_toList
  have hk : f6 (m + 10) name = some (bif s9x0.toList == name.toList then ((1 : Int), true) else bif s9x1.toList == name.toList then ((2 : Int), true) else bif s9x2.toList == name.toList then ((3 : Int), true) else bif s9x3.toList == name.toList then ((4 : Int), true)
      else bif s9x4.toList == name.toList then ((5 : Int), true) else bif s9x5.toList == name.toList then ((6 : Int), true) else ((0 : Int), false)) := by
    rw [f6_eq, show m + 10 = (m + 9) + 1 from rfl, kind_step _ (m + 9) name 1 _ (by decide) (by decide) n1, kind_step _ (m + 8) name (1 + 1) _ (by decide) (by decide) n2, kind_step _ (m + 7) name (1 + 1 + 1) _ (by decide) (by decide) n3,
      kind_step _ (m + 6) name (1 + 1 + 1 + 1) _ (by decide) (by decide) n4, kind_step _ (m + 5) name (1 + 1 + 1 + 1 + 1) _ (by decide) (by decide) n5, kind_step _ (m + 4) name (1 + 1 + 1 + 1 + 1 + 1) _ (by decide) (by decide) n6, f6_4_eq]
    cases s9x0.toList == name.toList <;> cases s9x1.toList == name.toList <;> cases s9x2.toList == name.toList <;> cases s9x3.toList == name.toList <;> cases s9x4.toList == name.toList <;> cases s9x5.toList == name.toList <;> rfl
  rw [f3_eq, hk]
  simp only [Option.bind_some]
  rw [show m + 10 = (m + 9) + 1 from rfl, want_step _ (m + 9) kind name _ _ 0 1 _ (by decide) (by decide) n1, want_step _ (m + 8) kind name _ _ _ (1 + 1) _ (by decide) (by decide) n2, want_step _ (m + 7) kind name _ _ _ (1 + 1 + 1) _ (by decide) (by decide) n3,
    want_step _ (m + 6) kind name _ _ _ (1 + 1 + 1 + 1) _ (by decide) (by decide) n4, want_step _ (m + 5) kind name _ _ _ (1 + 1 + 1 + 1 + 1) _ (by decide) (by decide) n5, want_step _ (m + 4) kind name _ _ _ (1 + 1 + 1 + 1 + 1 + 1) _ (by decide) (by decide) n6, f3_8_eq]
  obtain ⟨w, hw⟩ := name_some (m + 9 + 1) kind
  have hw7 : f7 (m + 9 + 1) kind = some w := (name_same _ _).trans hw
  have ha : f8 (m + 9 + 1) = some true := awake_true (m + 4)
  simp only [ha, hw, hw7, show decide ((1 : Int) + 1 + 1 + 1 + 1 + 1 + 1 ≤ 6) = false from rfl, cond_false, Option.bind_some, cond_true, beq_self_eq_true]
  rw [t1, t2, t3, t4, t5, t6]
  generalize name.toList = L
  by_cases h1 : [104, 101, 114, 100] = L
  · subst h1; rfl
  by_cases h2 : [116, 114, 105, 99, 107, 108, 101] = L
  · subst h2; rfl
  by_cases h3 : [115, 116, 111, 114, 109] = L
  · subst h3; rfl
  by_cases h4 : [108, 101, 97, 118, 101] = L
  · subst h4; rfl
  by_cases h5 : [102, 111, 114, 103, 101, 116] = L
  · subst h5; rfl
  by_cases h6 : [98, 97, 116, 99, 104] = L
  · subst h6; rfl
  rw [beq_false_of_ne h1, beq_false_of_ne h2, beq_false_of_ne h3, beq_false_of_ne h4, beq_false_of_ne h5, beq_false_of_ne h6]
  rfl
end Go.Proofs.YtaakmifjkobkgaaDoor
