/- All counts of events, 2: keys that are unlike, what is in progress, whole loops. -/
import Derived.Test.YtnlnfmakcnadlaaLCount
namespace Go.Proofs.Ytnlnfmakcnadlaa
open Go.Rf
theorem take_snoc {l : List Ev} {i : Nat} (h : i < l.length) : l.take (i + 1) = l.take i ++ [l.getD i z0] := by
  rw [List.take_add_one, List.getD_eq_getElem?_getD, List.getElem?_eq_getElem h]
  simp
/-! ### keys of maps -/
def ins {α : Type} [DecidableEq α] (r : List α) (k : α) : List α := if k ∈ r then r else r ++ [k]
theorem eqK_iff (a b : Ky) : eqK a b = true ↔ a = b := by
  refine ⟨fun h => eqD_eq (t := .agg (.pair (.int .u16) .str)) h, ?_⟩
  rintro rfl
  show (a.1 == a.1 && a.2 == a.2) = true
  rw [beq_toListBytes]
  simp
theorem eqI_iff (a b : Int) : eqD (.int .i64) a b = true ↔ a = b := by rw [eqI, beq_iff_eq]
theorem keys_mput {α β : Type} [DecidableEq α] {eq : α → α → Bool} (heq : ∀ a b, eq a b = true ↔ a = b) (k : α) (v : β) : ∀ l : List (α × β), (mput eq k v l).map (·.1) = ins (l.map (·.1)) k
  | [] => by simp [mput, ins]
  | p :: l => by
    have ih := keys_mput heq k v l
    by_cases h : k = p.1
    · have e : eq k p.1 = true := (heq _ _).2 h
      simp only [mput, e, List.map_cons, ins]
      rw [if_pos (by rw [h]; exact List.mem_cons_self), h]
    · have e : eq k p.1 = false := by
        cases hq : eq k p.1 with
        | false => rfl
        | true => exact (h ((heq _ _).1 hq)).elim
      simp only [mput, e, List.map_cons, ih, ins]
      by_cases h2 : k ∈ l.map (·.1)
      · rw [if_pos h2, if_pos (List.mem_cons_of_mem _ h2)]
      · rw [if_neg h2, if_neg (by simp only [List.mem_cons, not_or]; exact ⟨h, h2⟩)]
        rfl
theorem keys_mdel {α β : Type} [DecidableEq α] {eq : α → α → Bool} (heq : ∀ a b, eq a b = true ↔ a = b) (k : α) : ∀ l : List (α × β), (l.map (·.1)).Nodup → (mdel eq k l).map (·.1) = (l.map (·.1)).filter (fun x => decide (x ≠ k))
  | [], _ => rfl
  | p :: l, hn => by
    rw [List.map_cons, List.nodup_cons] at hn
    have ih := keys_mdel heq k l hn.2
    by_cases h : k = p.1
    · have e : eq k p.1 = true := (heq _ _).2 h
      simp only [mdel, e, List.map_cons]
      rw [List.filter_cons, if_neg (by simp [h])]
      refine (List.filter_eq_self.2 fun x hx => ?_).symm
      have : x ≠ k := fun e2 => hn.1 (by rw [← h, ← e2]; exact hx)
      simp [this]
    · have e : eq k p.1 = false := by
        cases hq : eq k p.1 with
        | false => rfl
        | true => exact (h ((heq _ _).1 hq)).elim
      simp only [mdel, e, List.map_cons, ih]
      rw [List.filter_cons, if_pos (by simp [Ne.symm h])]
theorem ins_nodup {α : Type} [DecidableEq α] {r : List α} {k : α} (h : r.Nodup) : (ins r k).Nodup := by
  unfold ins
  split
  · exact h
  · rename_i hk
    rw [List.nodup_append]
    refine ⟨h, List.nodup_cons.2 ⟨List.not_mem_nil, List.nodup_nil⟩, ?_⟩
    intro a ha b hb e
    rw [List.mem_singleton] at hb
    subst hb
    exact hk (e ▸ ha)
theorem ins_mem {α : Type} [DecidableEq α] {r : List α} {k x : α} : x ∈ ins r k ↔ x ∈ r ∨ x = k := by
  unfold ins
  split
  · rename_i hk
    exact ⟨fun h => .inl h, fun h => h.elim id fun e => e ▸ hk⟩
  · rw [List.mem_append, List.mem_singleton]
/-! ### what is in progress -/
structure Prg (mp : List (Int × Bool)) (R : List Int) : Prop where
  n1 : (mp.map (·.1)).Nodup
  n2 : R.Nodup
  eq : ∀ x, x ∈ mp.map (·.1) ↔ x ∈ R
theorem Prg.len {mp : List (Int × Bool)} {R : List Int} (h : Prg mp R) : mp.length = R.length := by
  have := ((List.perm_ext_iff_of_nodup h.n1 h.n2).2 h.eq).length_eq
  simpa using this
theorem Prg.step {mp : List (Int × Bool)} {R : List Int} (h : Prg mp R) (e : Ev) : Prg (stepP e mp) (stepR e R) := by
  unfold stepP stepR
  have hf : ∀ x, x ∈ R.filter (· != run e) ↔ x ∈ R ∧ x ≠ run e := by intro x; simp [List.mem_filter]
  have nf : (R.filter (· != run e)).Nodup := h.n2.filter _
  by_cases h2 : e.2.1 = 2
  · rw [if_pos h2, if_pos h2]
    refine ⟨by rw [keys_mput eqI_iff]; exact ins_nodup h.n1, ?_, fun x => ?_⟩
    · rw [List.nodup_append]
      refine ⟨nf, List.nodup_cons.2 ⟨List.not_mem_nil, List.nodup_nil⟩, ?_⟩
      intro a ha b hb e2
      rw [List.mem_singleton] at hb
      exact ((hf a).1 ha).2 (e2.trans hb)
    · rw [keys_mput eqI_iff, ins_mem, List.mem_append, hf, List.mem_singleton, h.eq]
      constructor
      · rintro (h1 | h1)
        · by_cases hx : x = run e
          · exact .inr hx
          · exact .inl ⟨h1, hx⟩
        · exact .inr h1
      · rintro (h1 | h1)
        · exact .inl h1.1
        · exact .inr h1
  · rw [if_neg h2, if_neg h2]
    by_cases h5 : e.2.1 = 5
    · rw [if_pos h5, if_pos h5]
      refine ⟨by rw [keys_mdel eqI_iff _ _ h.n1]; exact h.n1.filter _, nf, fun x => ?_⟩
      rw [keys_mdel eqI_iff _ _ h.n1, hf, List.mem_filter, h.eq]
      simp
    · rw [if_neg h5, if_neg h5]
      exact h
/-! ### whole runs -/
def stT (es : List Ev) (t : List Int × List Int × List Int) : List Int × List Int × List Int :=
  es.foldl (fun t e => (bump t.1 (kd e), stepH e t.2.1, stepE e t.2.2)) t
def stD (es : List Ev) (x : List Int × Int) : List Int × Int :=
  es.foldl (fun x e => (stepR e x.1, if ((stepR e x.1).length : Int) > x.2 then ((stepR e x.1).length : Int) else x.2)) x
def stP (es : List Ev) (x : List (Int × Bool) × Int) : List (Int × Bool) × Int :=
  es.foldl (fun x e => (stepP e x.1, stepM e (stepP e x.1) x.2)) x
def joins (es : List Ev) : List Ky := (es.filter fun e => decide (e.2.1 = 1)).map ky
theorem most_same : ∀ (es : List Ev) (R : List Int) (mp : List (Int × Bool)) (mo : Int), Prg mp R → (R.length : Int) ≤ mo → (stP es (mp, mo)).2 = (stD es (R, mo)).2
  | [], _, _, _, _, _ => rfl
  | e :: es, R, mp, mo, h, hm => by
    have h1 := h.step e
    have hl := h1.len
    show (stP es (stepP e mp, stepM e (stepP e mp) mo)).2 = (stD es (stepR e R, if ((stepR e R).length : Int) > mo then ((stepR e R).length : Int) else mo)).2
    have key : stepM e (stepP e mp) mo = if ((stepR e R).length : Int) > mo then ((stepR e R).length : Int) else mo := by
      unfold stepM
      by_cases h2 : e.2.1 = 2
      · rw [if_pos h2, hl]
      · rw [if_neg h2, if_neg]
        have : (stepR e R).length ≤ R.length := by
          unfold stepR
          rw [if_neg h2]
          split
          · exact List.length_filter_le _ _
          · exact Nat.le_refl _
        omega
    rw [key]
    refine most_same es _ _ _ h1 ?_
    split <;> omega
theorem stD_len : ∀ (es : List Ev) (x : List Int × Int), (stD es x).1.length ≤ x.1.length + es.length
  | [], _ => Nat.le_refl _
  | e :: es, x => by
    have := stD_len es (stepR e x.1, if ((stepR e x.1).length : Int) > x.2 then ((stepR e x.1).length : Int) else x.2)
    have h := stepR_len e x.1
    refine Nat.le_trans this ?_
    simp only [List.length_cons]
    omega
/-- All of the document's loop. -/
theorem doc_go (n : Nat) {l : List Ev} (hl : l.length ≤ 2000) (b : Tal) (K H E : List Int) (keys : Int) {m : Nat} (hm : 4020001 ≤ m) :
    f18_8 n m l l.length 0 b (K, H, E, keys, 0) [] = some ((stT l (K, H, E)).1, (stT l (K, H, E)).2.1, (stT l (K, H, E)).2.2, keys, (stD l ([], 0)).2) := by
  obtain ⟨s, m1, h1, h2, h3⟩ := loopN (G := fun m i (s : (List Int × List Int × List Int) × List Int × Int) => f18_8 n m l l.length i b (s.1.1, s.1.2.1, s.1.2.2, keys, s.2.2) s.2.1)
    (I := fun i s => s = (stT (l.take i) (K, H, E), stD (l.take i) ([], 0))) (len := l.length) (c := 2010)
    (by
      intro m i s hi hI hm
      have hR : s.2.1.length ≤ i := by
        rw [hI]
        have := stD_len (l.take i) ([], 0)
        simp only [List.length_nil, List.length_take] at this
        show (stD (l.take i) ([], 0)).1.length ≤ i
        omega
      obtain ⟨m', h1, h2⟩ := doc_step n l hl b hi s.1.1 s.1.2.1 s.1.2.2 keys s.2.2 s.2.1 hR hm
      refine ⟨((bump s.1.1 (kd (l.getD i z0)), stepH (l.getD i z0) s.1.2.1, stepE (l.getD i z0) s.1.2.2), (stepR (l.getD i z0) s.2.1, if ((stepR (l.getD i z0) s.2.1).length : Int) > s.2.2 then ((stepR (l.getD i z0) s.2.1).length : Int) else s.2.2)), m', ?_, h1, h2⟩
      rw [take_snoc hi, hI]
      unfold stT stD
      rw [List.foldl_append, List.foldl_append]
      rfl)
    l.length 0 m ((K, H, E), ([], 0)) (by omega) (by rw [List.take_zero]; rfl) (by
      have : l.length * 2010 ≤ 4020000 := Nat.le_trans (Nat.mul_le_mul_right _ hl) (by decide)
      omega)
  obtain ⟨m1, rfl⟩ : ∃ q, m1 = q + 1 := ⟨m1 - 1, by
    have : l.length * 2010 ≤ 4020000 := Nat.le_trans (Nat.mul_le_mul_right _ hl) (by decide)
    omega⟩
  rw [show ((0 : Nat) : Int) = 0 from rfl] at h3
  rw [List.take_length] at h1
  refine h3.trans ?_
  rw [h1]
  show f18_8 n (m1 + 1) l l.length (l.length : Nat) b _ _ = _
  rw [f18_8_eq, decide_eq_false (show ¬ (l.length : Int) < (l.length : Int) by omega), cond_false]
/-- All of the program's loop. -/
theorem prog_go (n : Nat) {l : List Ev} (hl : l.length ≤ 2000) (b : Tal) (K H E : List Int) {m : Nat} (hm : 4001 ≤ m) :
    f17_10 n m l l.length 0 b (K, H, E, 0, 0) [] [] = some ((stT l (K, H, E)).1, (stT l (K, H, E)).2.1, (stT l (K, H, E)).2.2, (((joins l).foldl ins []).length : Int), (stP l ([], 0)).2) := by
  obtain ⟨s, m1, h1, h2, h3⟩ := loopN (G := fun m i (s : (List Int × List Int × List Int) × (List (Ky × Bool)) × List (Int × Bool) × Int) => f17_10 n m l l.length i b (s.1.1, s.1.2.1, s.1.2.2, 0, s.2.2.2) s.2.1 s.2.2.1)
    (I := fun i s => s.1 = stT (l.take i) (K, H, E) ∧ s.2.1.map (·.1) = (joins (l.take i)).foldl ins [] ∧ s.2.2 = stP (l.take i) ([], 0)) (len := l.length) (c := 2)
    (by
      intro m i s hi hI hm
      obtain ⟨m, rfl⟩ : ∃ q, m = q + 2 := ⟨m - 2, by omega⟩
      refine ⟨_, m, ?_, by omega, prog_step n l hl b hi s.1.1 s.1.2.1 s.1.2.2 0 s.2.2.2 s.2.1 s.2.2.1 |>.trans
        (rfl : _ = (fun m i (s : (List Int × List Int × List Int) × (List (Ky × Bool)) × List (Int × Bool) × Int) => f17_10 n m l l.length i b (s.1.1, s.1.2.1, s.1.2.2, 0, s.2.2.2) s.2.1 s.2.2.1) m ((i + 1 : Nat) : Int) ((bump s.1.1 (kd (l.getD i z0)), stepH (l.getD i z0) s.1.2.1, stepE (l.getD i z0) s.1.2.2), stepK (l.getD i z0) s.2.1, stepP (l.getD i z0) s.2.2.1, stepM (l.getD i z0) (stepP (l.getD i z0) s.2.2.1) s.2.2.2))⟩
      obtain ⟨h1, h2, h3⟩ := hI
      refine ⟨?_, ?_, ?_⟩
      · rw [take_snoc hi, h1]
        unfold stT
        rw [List.foldl_append]
        rfl
      · rw [take_snoc hi]
        show (stepK (l.getD i z0) s.2.1).map (·.1) = _
        unfold joins stepK
        rw [List.filter_append, List.map_append, List.foldl_append]
        by_cases hj : (l.getD i z0).2.1 = 1
        · rw [if_pos hj, keys_mput eqK_iff, h2]
          simp only [List.filter_cons, hj, decide_true, if_true, List.filter_nil]
          rfl
        · rw [if_neg hj, h2]
          simp only [List.filter_cons, hj, decide_false, List.filter_nil]
          rfl
      · rw [take_snoc hi, h3]
        unfold stP
        rw [List.foldl_append]
        rfl)
    l.length 0 m ((K, H, E), [], [], 0) (by omega) ⟨by rw [List.take_zero]; rfl, by rw [List.take_zero]; rfl, by rw [List.take_zero]; rfl⟩ (by
      have : l.length * 2 ≤ 4000 := Nat.le_trans (Nat.mul_le_mul_right _ hl) (by decide)
      omega)
  obtain ⟨m1, rfl⟩ : ∃ q, m1 = q + 1 := ⟨m1 - 1, by
    have : l.length * 2 ≤ 4000 := Nat.le_trans (Nat.mul_le_mul_right _ hl) (by decide)
    omega⟩
  rw [show ((0 : Nat) : Int) = 0 from rfl] at h3
  rw [List.take_length] at h1
  refine h3.trans ?_
  obtain ⟨h1, h4, h5⟩ := h1
  have h6 : s.2.1.length = ((joins l).foldl ins []).length := by rw [← h4, List.length_map]
  show f17_10 n (m1 + 1) l l.length (l.length : Nat) b _ _ _ = _
  rw [f17_10_eq, decide_eq_false (show ¬ (l.length : Int) < (l.length : Int) by omega), cond_false, h6, h1, h5]
end Go.Proofs.Ytnlnfmakcnadlaa
