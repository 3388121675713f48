/- The plain law StoryMakes. -/
import Derived.Test.YtaakmifjkobkgaaDoorLChecks
namespace Go.Proofs.YtaakmifjkobkgaaDoor
open Go.Rf Go.Lib
structure ConfMay (c : Conf) : Prop where
  en : 0 ≤ c.2.2.2.1 ∧ c.2.2.2.1 ≤ 65536
  fl : 1 ≤ c.2.2.2.2.1 ∧ c.2.2.2.2.1 ≤ 4096
  ba : 1 ≤ c.2.2.2.2.2.1 ∧ c.2.2.2.2.2.1 ≤ 1024
  wi : 0 ≤ c.2.2.2.2.2.2
theorem conf_cases (n : Nat) (c : Conf) : (f24 n c = some true ∧ f61 n c = some 0 ∧ ConfMay c) ∨ (f24 n c = some false ∧ f61 n c = some 100) := by
  rw [f24_eq, f61_eq]
  by_cases h0 : c.1 ≥ 0
  case neg => rw [decide_eq_false h0]; exact .inr ⟨rfl, rfl⟩
  rw [decide_eq_true h0]
  simp only [cond_true]
  by_cases h1 : c.2.1 ≥ 0
  case neg => rw [decide_eq_false h1]; exact .inr ⟨rfl, rfl⟩
  rw [decide_eq_true h1]
  simp only [cond_true]
  by_cases h2 : c.2.2.1 ≥ 0
  case neg => rw [decide_eq_false h2]; exact .inr ⟨rfl, rfl⟩
  rw [decide_eq_true h2]
  simp only [cond_true]
  by_cases h3 : c.2.2.2.2.2.2 ≥ 0
  case neg => rw [decide_eq_false h3]; exact .inr ⟨rfl, rfl⟩
  rw [decide_eq_true h3]
  simp only [cond_true]
  by_cases h4 : c.2.2.2.1 ≥ 0
  case neg => rw [decide_eq_false h4]; exact .inr ⟨rfl, rfl⟩
  rw [decide_eq_true h4]
  simp only [cond_true]
  by_cases h5 : c.2.2.2.1 ≤ 65536
  case neg => rw [decide_eq_false h5]; exact .inr ⟨rfl, rfl⟩
  rw [decide_eq_true h5]
  simp only [cond_true]
  by_cases h6 : c.2.2.2.2.1 ≥ 1
  case neg => rw [decide_eq_false h6]; exact .inr ⟨rfl, rfl⟩
  rw [decide_eq_true h6]
  simp only [cond_true]
  by_cases h7 : c.2.2.2.2.1 ≤ 4096
  case neg => rw [decide_eq_false h7]; exact .inr ⟨rfl, rfl⟩
  rw [decide_eq_true h7]
  simp only [cond_true]
  by_cases h8 : c.2.2.2.2.2.1 ≥ 1
  case neg => rw [decide_eq_false h8]; exact .inr ⟨rfl, rfl⟩
  rw [decide_eq_true h8]
  simp only [cond_true]
  by_cases h9 : c.2.2.2.2.2.1 ≤ 1024
  case neg => rw [decide_eq_false h9]; exact .inr ⟨rfl, rfl⟩
  rw [decide_eq_true h9]
  exact .inl ⟨rfl, rfl, ⟨by omega, by omega⟩, ⟨by omega, by omega⟩, ⟨by omega, by omega⟩, by omega⟩
theorem group_ok {n : Nat} {c : Conf} (h61 : f61 n c = some 0) (h : ConfMay c) : ∃ z, f36o n c = some (Sum.inr (Sum.inr (Sum.inr (Sum.inr (Sum.inr (Sum.inr (Sum.inr (Sum.inr (Sum.inr (Sum.inr (Sum.inr (Sum.inr (((), 0), z))))))))))))) := by
  obtain ⟨z2, h62⟩ : ∃ z, f62o n c.2.2.2.1 = some (Sum.inr z) := by
    rw [f62o_eq, decide_eq_false (by have := h.en; omega), decide_eq_false (by have := h.en; omega)]
    exact ⟨_, rfl⟩
  obtain ⟨z0, h50⟩ : ∃ z, f50o n c.2.2.2.2.1 = some (Sum.inr z) := by
    rw [f50o_eq, decide_eq_false (by have := h.fl; omega), decide_eq_false (by have := h.fl; omega)]
    exact ⟨_, rfl⟩
  obtain ⟨z1, h51⟩ : ∃ z, f51o n c.2.2.2.2.2.1 c.2.2.2.2.2.2 = some (Sum.inr z) := by
    rw [f51o_eq, decide_eq_false (by have := h.ba; omega), decide_eq_false (by have := h.ba; omega), decide_eq_false (by have := h.wi; omega)]
    exact ⟨_, rfl⟩
  rw [f36o_eq, f49o_eq, h61]
  simp only [Option.bind_some, bne_self_eq_false, cond_false, h62, h50, h51, f52o_eq, Sum.elim_inr]
  exact ⟨_, rfl⟩
theorem group_no {n : Nat} {c : Conf} (h61 : f61 n c = some 100) : f36o n c = some (Sum.inl (((), 100), ())) := by
  rw [f36o_eq, f49o_eq, h61]
  rfl
theorem check_conf {n : Nat} (hn : 1000 ≤ n) {t : Tale} (h : May t) (c : Conf) : ∃ b e, f24 n c = some b ∧ f23 n (scr n t c) = some (0, e) ∧ (e == 0) = b := by
  obtain ⟨p1, p2⟩ := parts_may hn h
  rcases conf_cases n c with ⟨h1, h2, h3⟩ | ⟨h1, h2⟩
  · refine ⟨true, 0, h1, ?_, rfl⟩
    obtain ⟨z, hz⟩ := group_ok h2 h3
    obtain ⟨y, hy⟩ := ready_may n t.2.2.2.2.2
    rw [f23_eq, show (scr n t c).1 = c from rfl, hz, show (scr n t c).2.1 = recs n t from rfl, show (scr n t c).2.2.1 = clis n t from rfl, show (scr n t c).2.2.2.1 = 0 from rfl, show (scr n t c).2.2.2.2.1 = t.2.2.2.2.2 from rfl, show (scr n t c).2.2.2.2.2 = [] from rfl]
    simp only [Option.bind_some, Sum.elim_inr, bne_self_eq_false, cond_false, p1, p2, hy]
  · refine ⟨false, 100, h1, ?_, rfl⟩
    rw [f23_eq, show (scr n t c).1 = c from rfl, group_no h2]
    rfl
theorem in_same (n : Nat) (a : Int) : f33 n a = f32 n a := by
  rw [f33_eq, f32_eq]
theorem in_some (n : Nat) (a : Int) : (f32 n a = some true ∧ 1 ≤ a ∧ a ≤ 64) ∨ f32 n a = some false := by
  rw [f32_eq]
  by_cases h : a ≥ 1
  · by_cases h2 : a ≤ 64
    · rw [decide_eq_true h, decide_eq_true h2]; exact .inl ⟨rfl, h, h2⟩
    · rw [decide_eq_true h, decide_eq_false h2]; exact .inr rfl
  · rw [decide_eq_false h]; exact .inr rfl
theorem name_cases (n : Nat) (k : Int) : (1 ≤ k ∧ k ≤ 6 ∧ ∃ b, f9 n k = some b ∧ (b.toList == ByteArray.empty.toList) = false) ∨ (¬ (1 ≤ k ∧ k ≤ 6) ∧ f9 n k = some ByteArray.empty) := by
  obtain ⟨n1, n2, n3, n4, n5, n6⟩ := f9_is n
  by_cases h : 1 ≤ k ∧ k ≤ 6
  · refine .inl ⟨h.1, h.2, ?_⟩
    rcases (by omega : k = 1 ∨ k = 2 ∨ k = 3 ∨ k = 4 ∨ k = 5 ∨ k = 6) with e | e | e | e | e | e <;> subst e
    · exact ⟨_, n1, ne_empty (by decide)⟩
    · exact ⟨_, n2, ne_empty (by decide)⟩
    · exact ⟨_, n3, ne_empty (by decide)⟩
    · exact ⟨_, n4, ne_empty (by decide)⟩
    · exact ⟨_, n5, ne_empty (by decide)⟩
    · exact ⟨_, n6, ne_empty (by decide)⟩
  · refine .inr ⟨h, ?_⟩
    rw [f9_eq]
    have e : ∀ {j : Int}, k ≠ j → (k == j) = false := fun h => beq_false_of_ne h
    rw [e (by omega), e (by omega), e (by omega), e (by omega), e (by omega), e (by omega)]
    rfl
theorem may_cases (n : Nat) (t : Tale) : (f18 n t = some true ∧ f20 n t = some 0 ∧ 1 ≤ t.1 ∧ t.1 ≤ 6 ∧ May t) ∨ (f18 n t = some false ∧ f20 n t = some 290) := by
  rw [f18_eq, f20_eq, in_same, in_same, in_same]
  rcases name_cases n t.1 with ⟨h1, h6, b, hb, hne⟩ | ⟨hno, hb⟩
  · rw [hb, decide_eq_true (show t.1 ≥ 1 from h1), decide_eq_true h6]
    simp only [Option.bind_some, hne, cond_true, cond_false]
    rcases in_some n t.2.1 with ⟨e1, g1⟩ | e1 <;> rw [e1]
    case inr => exact .inr ⟨rfl, rfl⟩
    rcases in_some n t.2.2.1 with ⟨e2, g2⟩ | e2 <;> rw [e2]
    case inr => exact .inr ⟨rfl, rfl⟩
    rcases in_some n t.2.2.2.1 with ⟨e3, g3⟩ | e3 <;> rw [e3]
    case inr => exact .inr ⟨rfl, rfl⟩
    rw [f34_eq]
    simp only [Option.bind_some, Bool.not_true, cond_false, cond_true]
    by_cases p1 : t.2.2.2.2.1 ≥ 0
    case neg => rw [decide_eq_false p1]; exact .inr ⟨rfl, rfl⟩
    by_cases p2 : t.2.2.2.2.1 ≤ 4611686018427387904
    case neg => rw [decide_eq_true p1, decide_eq_false p2]; exact .inr ⟨rfl, rfl⟩
    rw [decide_eq_true p1, decide_eq_true p2]
    exact .inl ⟨rfl, rfl, h1, h6, g1, g2, g3, p1, p2⟩
  · rw [hb]
    refine .inr ⟨?_, ?_⟩
    · by_cases q : t.1 ≥ 1
      · rw [decide_eq_true q, decide_eq_false (show ¬ t.1 ≤ 6 by omega)]; rfl
      · rw [decide_eq_false q]; rfl
    · simp only [Option.bind_some, beq_self_eq_true, cond_true]
theorem makes_true (n : Nat) (hn : 20000 ≤ n) (t : Tale) (c : Conf) : f5 n t c = some true := by
  have haw : f8 n = some true := by
    have := awake_true (n - 6)
    rw [show n - 6 + 6 = n by omega] at this
    exact this
  obtain ⟨m, hm⟩ : ∃ m, n = m + 1 + 1 := ⟨n - 2, by omega⟩
  rcases may_cases n t with ⟨a1, a2, a3, a4, a5⟩ | ⟨a1, a2⟩
  · rw [f5_eq, go_make (by omega) a5 a3 a4 c a2, f19_eq]
    simp only [Option.bind_some, a1, cond_true]
    rw [show f5_13 n n (0 : Int) true 0 t c (scr n t c) = f5_13 n (m + 1 + 1) (0 : Int) true 0 t c (scr n t c) by rw [← hm], f5_13_eq, haw, a2]
    simp only [Option.bind_some, Bool.not_true, cond_false, bne_self_eq_false]
    rw [f5_17_eq]
    obtain ⟨b, e, b1, b2, b3⟩ := check_conf (n := n) (by omega) a5 c
    have eta : ∀ s : Script, (s.1, s.2.1, s.2.2.1, s.2.2.2.1, s.2.2.2.2.1, s.2.2.2.2.2) = s := fun _ => rfl
    rw [show (scr n t c).1 = c from rfl]
    simp only [beq_self_eq_true, Bool.and_self, Bool.not_true, cond_false]
    rw [f19_eq]
    simp only [Option.bind_some]
    rw [ref_make (by omega) a5 a3 a4]
    simp only [Option.bind_some]
    rw [show ((c, (scr n t c).2.1, (scr n t c).2.2.1, (scr n t c).2.2.2.1, (scr n t c).2.2.2.2.1, (scr n t c).2.2.2.2.2) : Script) = scr n t c from rfl, eta, same_script hn a5]
    simp only [Option.bind_some, Bool.not_true, cond_false]
    rw [b2, b1]
    simp only [Option.bind_some]
    rw [b3, beq_self_eq_true]
  · rw [f5_eq, f17L_eq, f19_eq, a2]
    simp only [Option.bind_some, a1, cond_false, show ((290 : Int) != 0) = true from rfl, cond_true]
    rw [hm, f5_13_eq, ← hm, haw, a2]
    simp only [Option.bind_some, Bool.not_true, cond_false, bne_self_eq_false]
    rw [f5_17_eq]
    rfl
end Go.Proofs.YtaakmifjkobkgaaDoor
