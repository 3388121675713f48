/- Both read any text alike, 2: numbers, steps, texts. -/
import Derived.Test.YtfmbgnbdolidjaaDoorLParse
namespace Go.Proofs.YtfmbgnbdolidjaaDoor
open Go.Rf Go.Lib
theorem go_num {n : Nat} {k j : Nat} (hj : j < mn k) (m : Nat) {w : Bytes} {ws : Ws} {p L : Nat} (b2 : Step) (A B : Int) (hp : p + w.length ≤ 100000000) (hl : ws.length ≤ 100000000) {v : Int} {ok q : Bool}
    (hn : f40 n (bs w) = some (v, ok)) (hq : ok = true → f41 n (putN j v (((k : Nat) : Int), A, B)) ((j : Nat) : Int) = some q) :
    f24o_22 n (m + 1) () ((mn k : Nat) : Int) ((j : Nat) : Int) (bs w :: ws.map bs, ((p : Nat) : Int), ((L : Nat) : Int)) b2 (((k : Nat) : Int), A, B) =
      bif ok && q then f24o_22 n m () ((mn k : Nat) : Int) ((j + 1 : Nat) : Int) (ws.map bs, ((p + w.length + 1 : Nat) : Int), ((L : Nat) : Int)) b2 (putN j v (((k : Nat) : Int), A, B))
      else some ((((0, 0, 0), ((p : Nat) : Int), false), ((ws.map bs, ((p + w.length + 1 : Nat) : Int), ((L : Nat) : Int)), ()))) := by
  have hm := mn_le k
  rw [f24o_22_eq, decide_eq_true (show ((j : Nat) : Int) < ((mn k : Nat) : Int) by omega), next_go n hp hl, castN (by omega)]
  simp only [cond_true, Option.bind_some, Bool.not_true, cond_false, hn]
  rcases (show j = 0 ∨ j = 1 by omega) with rfl | rfl
  · rw [decide_eq_true (show ((0 : Nat) : Int) = ((0 : Nat) : Int) from rfl), cond_true]
    cases ok with
    | false => rfl
    | true =>
      have hq := hq rfl
      have e : putN 0 v (((k : Nat) : Int), A, B) = (((k : Nat) : Int), v, B) := rfl
      rw [e] at hq ⊢
      rw [hq]
      cases q <;> rfl
  · rw [decide_eq_false (show ¬ ((1 : Nat) : Int) = ((0 : Nat) : Int) by omega), cond_false, decide_eq_true (show ((1 : Nat) : Int) = ((1 : Nat) : Int) from rfl), cond_true]
    cases ok with
    | false => rfl
    | true =>
      have hq := hq rfl
      have e : putN 1 v (((k : Nat) : Int), A, B) = (((k : Nat) : Int), A, v) := rfl
      rw [e] at hq ⊢
      rw [hq]
      cases q <;> rfl
theorem ref_num {n : Nat} (hn : 1048577 ≤ n) {k j : Nat} (hj : j < mn k) (m : Nat) {P w : Bytes} {ws : Ws} (A B : Int) (acc : List Step) (hw : (32 : UInt8) ∉ w) (hl : (P ++ tl (w :: ws)).length ≤ 1048576) {u v : Int} {ok q : Bool}
    (hu : f27 n (bs w) = some (u, ok)) (hv : ok = true → u = v)
    (hq : ok = true → ∀ (s : ByteArray) (x6 : Int) (d : ByteArray) (m : Nat), f11_45 n (m + 1) s x6 ((mn k : Nat) : Int) ((j : Nat) : Int) d v true (putN j v (((k : Nat) : Int), A, B)) acc = f11_53 n m s x6 ((mn k : Nat) : Int) ((j : Nat) : Int) d q (putN j v (((k : Nat) : Int), A, B)) acc) :
    f11_24 n (m + 3) (bs (P ++ tl (w :: ws))) ((P.length : Nat) : Int) ((mn k : Nat) : Int) ((j : Nat) : Int) (((k : Nat) : Int), A, B) acc =
      bif ok && q then f11_24 n m (bs (P ++ tl (w :: ws))) ((P.length + 1 + w.length : Nat) : Int) ((mn k : Nat) : Int) ((j + 1 : Nat) : Int) (putN j v (((k : Nat) : Int), A, B)) acc
      else some ([], ((P.length + 1 : Nat) : Int), 80) := by
  have hm := mn_le k
  have hlen : (P ++ tl (w :: ws)).length = P.length + 1 + w.length + (tl ws).length := by simp [tl]; omega
  have e1 : P ++ tl (w :: ws) = (P ++ [32]) ++ (w ++ tl ws) := by simp [tl]
  have hx : f25 n (bs (P ++ tl (w :: ws))) ((P.length + 1 : Nat) : Int) = some (bs w) := by
    have := next_at (n := n) (pre := P ++ [32]) (ws := ws) hw (by rw [← e1]; exact hl) hn
    rw [← e1, List.length_append, List.length_singleton] at this
    exact this
  rw [f11_24_eq, decide_eq_true (show ((j : Nat) : Int) < ((mn k : Nat) : Int) by omega), cond_true, beq_false_of_ne (show ((P.length : Nat) : Int) ≠ ((bs (P ++ tl (w :: ws))).size : Int) by rw [bs_size, hlen]; omega), cond_false, castN (by omega), hx]
  simp only [Option.bind_some, hu]
  have last : ∀ (q : Bool) (x : Step), f11_53 n (m + 1) (bs (P ++ tl (w :: ws))) ((P.length + 1 : Nat) : Int) ((mn k : Nat) : Int) ((j : Nat) : Int) (bs w) q x acc =
      bif q then f11_24 n m (bs (P ++ tl (w :: ws))) ((P.length + 1 + w.length : Nat) : Int) ((mn k : Nat) : Int) ((j + 1 : Nat) : Int) x acc else some ([], ((P.length + 1 : Nat) : Int), 80) := by
    intro q x
    rw [f11_53_eq, bs_size, castN (by omega), wI (by omega) (by omega)]
    cases q <;> rfl
  cases ok with
  | false =>
    have e45 : ∀ x : Step, f11_45 n (m + 1 + 1) (bs (P ++ tl (w :: ws))) ((P.length + 1 : Nat) : Int) ((mn k : Nat) : Int) ((j : Nat) : Int) (bs w) u false x acc = some ([], ((P.length + 1 : Nat) : Int), 80) := by
      intro x
      rw [f11_45_eq, cond_false, cond_false, last]
      rfl
    rw [e45, e45]
    cases ((j : Nat) : Int) == 0 <;> rfl
  | true =>
    have hv := hv rfl
    subst hv
    have hq := hq rfl
    rcases (show j = 0 ∨ j = 1 by omega) with rfl | rfl
    · have e : putN 0 u (((k : Nat) : Int), A, B) = (((k : Nat) : Int), u, B) := rfl
      rw [e] at hq ⊢
      rw [show (((0 : Nat) : Int) == 0) = true from rfl, cond_true, hq, last]
      rfl
    · have e : putN 1 u (((k : Nat) : Int), A, B) = (((k : Nat) : Int), A, u) := rfl
      rw [e] at hq ⊢
      rw [show (((1 : Nat) : Int) == 0) = false from rfl, cond_false, hq, last]
      rfl
/-- What both come to behind the numbers of a step. -/
def Numd (n m' k : Nat) (s : Bytes) (acc : List Step) (r : Nat) (N : Nat) (go : Option ((Step × (Int × Bool)) × ((List ByteArray × P3) × Unit))) (ref : Option (List Step × Int × Int)) : Prop :=
  (∃ (z : Step) (place : Int) (X : List ByteArray × P3), go = some (((z, place, false), (X, ()))) ∧ ref = some ([], place, 80)) ∨
  (∃ (x : Step) (ws : Ws) (P : Bytes) (m2 : Nat), s = P ++ tl ws ∧ NoSp ws ∧ ws.length ≤ N ∧ m' ≤ m2 + 3 * r ∧ go = some (((x, 0, true), ((ws.map bs, ((P.length + 1 : Nat) : Int), ((s.length : Nat) : Int)), ()))) ∧
    ref = f11_24 n m2 (bs s) ((P.length : Nat) : Int) ((mn k : Nat) : Int) ((mn k : Nat) : Int) x acc)
theorem nums {n : Nat} (hn : 1048577 ≤ n) {k : Nat} (h1 : 1 ≤ k) (h2 : k ≤ 12) (b2 : Step) (acc : List Step) (s : Bytes) (hl : s.length ≤ 1048576) : ∀ (r j m m' : Nat) (ws : Ws) (P : Bytes) (x : Step), j + r = mn k → x.1 = ((k : Nat) : Int) → s = P ++ tl ws → NoSp ws → r + 1 ≤ m → 3 * r + 1 ≤ m' →
    Numd n m' k s acc r ws.length (f24o_22 n m () ((mn k : Nat) : Int) ((j : Nat) : Int) (ws.map bs, ((P.length + 1 : Nat) : Int), ((s.length : Nat) : Int)) b2 x) (f11_24 n m' (bs s) ((P.length : Nat) : Int) ((mn k : Nat) : Int) ((j : Nat) : Int) x acc) := by
  intro r
  induction r with
  | zero =>
    intro j m m' ws P x hj hx e hns hm hm'
    obtain ⟨m, rfl⟩ : ∃ q, m = q + 1 := ⟨m - 1, by omega⟩
    have hj : j = mn k := by omega
    subst hj
    refine .inr ⟨x, ws, P, m', e, hns, Nat.le_refl _, by omega, ?_, rfl⟩
    rw [f24o_22_eq, decide_eq_false (by omega)]
    rfl
  | succ r ih =>
    intro j m m' ws P x hj hx e hns hm hm'
    obtain ⟨x1, A, B⟩ := x
    have hx : x1 = ((k : Nat) : Int) := hx
    subst hx
    cases ws with
    | nil =>
      obtain ⟨m, rfl⟩ : ∃ q, m = q + 1 := ⟨m - 1, by omega⟩
      obtain ⟨m', rfl⟩ : ∃ q, m' = q + 1 := ⟨m' - 1, by omega⟩
      refine .inl ⟨(0, 0, 0), ((s.length : Nat) : Int), ([], ((P.length + 1 : Nat) : Int), ((s.length : Nat) : Int)), ?_, ?_⟩
      · rw [f24o_22_eq, decide_eq_true (show ((j : Nat) : Int) < ((mn k : Nat) : Int) by omega)]
        simp only [cond_true, List.map_nil]
        rw [next_none]
        rfl
      · have es : s = P := by rw [e]; simp [tl]
        rw [f11_24_eq, decide_eq_true (show ((j : Nat) : Int) < ((mn k : Nat) : Int) by omega), bs_size, es, beq_self_eq_true]
        rfl
    | cons w ws =>
      obtain ⟨m, rfl⟩ : ∃ q, m = q + 1 := ⟨m - 1, by omega⟩
      obtain ⟨m', rfl⟩ : ∃ q, m' = q + 3 := ⟨m' - 3, by omega⟩
      have hw := hns w (by simp)
      have hns2 : NoSp ws := fun x hx => hns x (by simp [hx])
      have hlen : s.length = P.length + 1 + w.length + (tl ws).length := by rw [e]; simp [tl]; omega
      have htl := tl_len ws
      subst e
      rcases num_both (n := n) (by omega) (w := w) (by omega) with ⟨v, hv, _, g1, g2⟩ | ⟨v, u, g1, g2⟩
      · obtain ⟨q, q1, q2⟩ := ask_both n h1 h2 (j := j) (by omega) v A B (bs []) 0 (bs []) 0 acc
        have q3 : ∀ (s : ByteArray) (x6 : Int) (d : ByteArray) (m : Nat), f11_45 n (m + 1) s x6 ((mn k : Nat) : Int) ((j : Nat) : Int) d v true (putN j v (((k : Nat) : Int), A, B)) acc = f11_53 n m s x6 ((mn k : Nat) : Int) ((j : Nat) : Int) d q (putN j v (((k : Nat) : Int), A, B)) acc := by
          intro s x6 d m
          obtain ⟨q', a1, a2⟩ := ask_both n h1 h2 (j := j) (by omega) v A B s x6 d m acc
          rw [q1] at a1
          cases a1
          exact a2
        rw [List.map_cons, go_num (by omega) m b2 A B (by omega) (by omega) g1 (fun _ => q1), ref_num hn (by omega) m' A B acc hw hl g2 (fun _ => rfl) (fun _ => q3)]
        cases q with
        | false => exact .inl ⟨(0, 0, 0), _, _, rfl, rfl⟩
        | true =>
          have hp : (P ++ 32 :: w).length = P.length + 1 + w.length := by simp; omega
          have := ih (j + 1) m m' ws (P ++ 32 :: w) (putN j v (((k : Nat) : Int), A, B)) (by omega) (by unfold putN; split <;> rfl) (by simp [tl]) hns2 (by omega) (by omega)
          rw [hp] at this
          simp only [Bool.and_self, cond_true]
          rw [show P.length + 1 + w.length + 1 = P.length + 1 + w.length + 1 from rfl]
          rcases this with h | ⟨x, ws2, P2, m2, a1, a2, a3, a4, a5, a6⟩
          · exact .inl h
          · exact .inr ⟨x, ws2, P2, m2, a1, a2, by simp; omega, by omega, a5, a6⟩
      · rw [List.map_cons, go_num (q := false) (by omega) m b2 A B (by omega) (by omega) g1 (fun h => by cases h), ref_num (v := u) (q := false) hn (by omega) m' A B acc hw hl g2 (fun _ => rfl) (fun h => by cases h)]
        exact .inl ⟨(0, 0, 0), _, _, rfl, rfl⟩
theorem end_go (n M : Nat) (acc : List Step) (X : P3) : f10_10 n (M + 1) acc ([], X) = (bif decide (((acc.length : Nat) : Int) > 256) then some ([], 256, 3) else some (acc, 0, 0)) := by
  rw [f10_10_eq]
  rfl
theorem fits24 {a : Nat} (h : a ≤ 100000000) : decide ((a + 1) * 24 ≤ maxBytes) = true := by
  have : maxBytes = 140737488355328 := rfl
  rw [this]
  exact decide_eq_true (by omega)
/-- A step of the program. -/
theorem step_go {n : Nat} {w : Bytes} {ws : Ws} {p L : Nat} (hp : p + w.length ≤ 100000000) (hl : ws.length ≤ 100000000) : f24o n (bs w :: ws.map bs) (((p : Nat) : Int), ((L : Nat) : Int)) =
    f24o_10 n n (bs w) ((p : Nat) : Int) forms 12 0 (ws.map bs, ((p + w.length + 1 : Nat) : Int), ((L : Nat) : Int)) (0, 0, 0) := by
  rw [f24o_eq, next_go n hp hl]
  simp only [Option.bind_some, Bool.not_true, cond_false]
  rw [forms_go]
  rfl
theorem parse_alike {n : Nat} (hn : 4194304 ≤ n) (s : Bytes) (hl : s.length ≤ 1048576) : ∀ (N : Nat) (ws : Ws) (w pre : Bytes) (acc : List Step) (M M' : Nat), ws.length < N → NoSp (w :: ws) → s = pre ++ (w ++ tl ws) → acc.length + ws.length ≤ 10000000 → ws.length + 2 ≤ M → 8 * (ws.length + 1) ≤ M' →
    ∃ out, f10_10 n M acc (bs w :: ws.map bs, ((pre.length : Nat) : Int), ((s.length : Nat) : Int)) = some out ∧ f11_10 n M' (bs s) ((pre.length : Nat) : Int) acc = some out ∧ out.1.length ≤ 10000001 := by
  intro N
  induction N with
  | zero => intro ws w pre acc M M' hN; omega
  | succ N ih =>
    intro ws w pre acc M M' hN hns e hacc hM hM'
    obtain ⟨M, rfl⟩ : ∃ q, M = q + 1 := ⟨M - 1, by omega⟩
    obtain ⟨M', rfl⟩ : ∃ q, M' = q + 1 := ⟨M' - 1, by omega⟩
    have hw := hns w (by simp)
    have hns2 : NoSp ws := fun x hx => hns x (by simp [hx])
    have htl := tl_len ws
    have hlen : s.length = pre.length + w.length + (tl ws).length := by rw [e]; simp; omega
    have hx : f25 n (bs s) ((pre.length : Nat) : Int) = some (bs w) := by rw [e]; exact next_at hw (by rw [← e]; exact hl) (by omega)
    rw [f10_10_eq, f11_10_eq, hx]
    simp only [Option.bind_some]
    rw [decide_eq_true (show (((bs w :: ws.map bs).length : Nat) : Int) > 0 by rw [List.length_cons]; omega), cond_true, step_go (by omega) (by omega), bs_size]
    rcases find_both (n := n) (by omega) w ((pre.length : Nat) : Int) (ws.map bs, ((pre.length + w.length + 1 : Nat) : Int), ((s.length : Nat) : Int)) (0, 0, 0) with ⟨k, h1, h2, _, ⟨m', hm', g1⟩, g2⟩ | ⟨g1, g2, _⟩
    · rw [g1, g2]
      simp only [Option.bind_some]
      rw [beq_false_of_ne (show ((k : Nat) : Int) ≠ 0 by omega), cond_false, word_at n h1 h2]
      simp only [Option.bind_some]
      rw [wI (by omega) (by omega)]
      have hm2 := mn_le k
      have hp : (pre ++ w).length = pre.length + w.length := by simp
      have := nums (n := n) (by omega) h1 h2 (0, 0, 0) acc s hl (mn k) 0 m' M' ws (pre ++ w) (((k : Nat) : Int), 0, 0) (by omega) rfl (by rw [e, List.append_assoc]) hns2 (by omega) (by omega)
      rw [hp] at this
      have ec : ((pre.length : Nat) : Int) + ((w.length : Nat) : Int) = ((pre.length + w.length : Nat) : Int) := by omega
      rw [ec]
      rcases this with ⟨z, place, X, a1, a2⟩ | ⟨x, ws2, P2, m2, a1, a2, a3, a4, a5, a6⟩
      · have a1 : f24o_22 n m' () ((mn k : Nat) : Int) 0 (ws.map bs, ((pre.length + w.length + 1 : Nat) : Int), ((s.length : Nat) : Int)) (0, 0, 0) (((k : Nat) : Int), 0, 0) = _ := a1
        have a2 : f11_24 n M' (bs s) ((pre.length + w.length : Nat) : Int) ((mn k : Nat) : Int) 0 (((k : Nat) : Int), 0, 0) acc = _ := a2
        rw [a1, a2]
        exact ⟨_, rfl, rfl, by simp⟩
      · have a5 : f24o_22 n m' () ((mn k : Nat) : Int) 0 (ws.map bs, ((pre.length + w.length + 1 : Nat) : Int), ((s.length : Nat) : Int)) (0, 0, 0) (((k : Nat) : Int), 0, 0) = _ := a5
        have a6 : f11_24 n M' (bs s) ((pre.length + w.length : Nat) : Int) ((mn k : Nat) : Int) 0 (((k : Nat) : Int), 0, 0) acc = _ := a6
        rw [a5, a6]
        simp only [Option.bind_some, Bool.not_true, cond_false]
        obtain ⟨m2, rfl⟩ : ∃ q, m2 = q + 1 := ⟨m2 - 1, by omega⟩
        have hf : decide ((acc.length + [x].length) * (24 : Nat) ≤ maxBytes) = true := fits24 (by omega)
        rw [f11_24_eq, decide_eq_false (show ¬ ((mn k : Nat) : Int) < ((mn k : Nat) : Int) by omega), cond_false, hf]
        simp only [cond_true]
        have hal : (acc ++ [x]).length = acc.length + 1 := by simp
        cases ws2 with
        | nil =>
          have es : s = P2 := by rw [a1]; simp [tl]
          obtain ⟨M, rfl⟩ : ∃ q, M = q + 1 := ⟨M - 1, by omega⟩
          rw [List.map_nil, end_go, bs_size, ← es, beq_self_eq_true, cond_true]
          cases decide ((((acc ++ [x]).length : Nat) : Int) > 256) with
          | true => exact ⟨_, rfl, rfl, by simp⟩
          | false => exact ⟨_, rfl, rfl, by show (acc ++ [x]).length ≤ _; omega⟩
        | cons w2 ws3 =>
          have h3 : ws3.length + 1 ≤ ws.length := by simpa using a3
          have hs2 : s.length = P2.length + 1 + w2.length + (tl ws3).length := by rw [a1]; simp [tl]; omega
          rw [bs_size, beq_false_of_ne (show ((P2.length : Nat) : Int) ≠ ((s.length : Nat) : Int) by omega), cond_false, castN (by omega)]
          have hp2 : (P2 ++ [32]).length = P2.length + 1 := by simp
          have := ih ws3 w2 (P2 ++ [32]) (acc ++ [x]) M m2 (by omega) a2 (by rw [a1]; simp [tl]) (by omega) (by omega) (by omega)
          rw [hp2] at this
          exact this
    · rw [g1, g2]
      exact ⟨_, rfl, rfl, by simp⟩
/-- Any text. -/
theorem texts_alike {n : Nat} (hn : 16777216 ≤ n) (s : Bytes) (hl : s.length ≤ 1048576) : ∃ out, f10 n (bs s) = some out ∧ f11 n (bs s) = some out ∧ out.1.length ≤ 10000001 := by
  rw [f10_eq, f11_eq, bs_empty, eqBA]
  by_cases h : s = []
  · rw [decide_eq_true h]
    exact ⟨_, rfl, rfl, by simp⟩
  · rw [decide_eq_false h]
    simp only [cond_false]
    obtain ⟨ws, h1, h2, h3⟩ := words_of s.length s (Nat.le_refl _)
    rw [show f23L n (bs s) s10x0 = some (ws.map bs) by rw [h3]; exact split_go n h1 h2 (by rw [← h3]; exact hl)]
    simp only [Option.bind_some]
    cases ws with
    | nil => exact (h1 rfl).elim
    | cons w ws =>
      have htl := tl_len ws
      have hlen : s.length = w.length + (tl ws).length := by rw [h3]; simp [jn]
      have := parse_alike (n := n) (by omega) s hl (ws.length + 1) ws w [] [] n n (by omega) h2 h3 (by simp; omega) (by omega) (by omega)
      rw [bs_size]
      exact this
end Go.Proofs.YtfmbgnbdolidjaaDoor
