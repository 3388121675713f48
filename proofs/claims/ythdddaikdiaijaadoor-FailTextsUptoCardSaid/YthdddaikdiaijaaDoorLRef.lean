/- A text read as a failure, by the document: it is the one whose text it is. -/
import Derived.Test.YthdddaikdiaijaaDoorLParse
namespace Go.Proofs.YthdddaikdiaijaaDoor
open Go.Rf Go.Lib
/-! ### numbers -/
/-- Behind the digits. -/
theorem num_end {n : Nat} (hn : 20 ≤ n) (m : Nat) (w : Bytes) (x : Int) (hx : i64 x) : f35_6 n (m + 1) (bs w) x ((w.length : Nat) : Int) =
    some (if w.head? = some 45 ∨ w = [] then (x, decide (itoa x = w)) else (IntKind.i64.wrap (0 - x), decide (itoa (IntKind.i64.wrap (0 - x)) = w))) := by
  rw [f35_6_eq, at_len rfl, cond_false]
  cases w with
  | nil =>
    rw [number_all hn hx, decide_eq_false (show ¬ ((bs []).size : Int) > 0 by rw [bs_size]; simp)]
    simp only [cond_false, Option.bind_some, or_true, if_true]
    rw [eqBA]
  | cons c r =>
    rw [number_all hn hx, number_all hn (wI_i64 _), decide_eq_true (show ((bs (c :: r)).size : Int) > 0 by rw [bs_size, List.length_cons]; omega),
      decide_eq_true (show (0 : Int) ≤ (0 : Int) ∧ (0 : Int) < ((bs (c :: r)).size : Int) by rw [bs_size, List.length_cons]; omega)]
    simp only [cond_true, Option.bind_some]
    rw [eqBA, eqBA]
    have hb : byteAt (bs (c :: r)) (0 : Int) = ((c.toNat : Nat) : Int) := rfl
    rw [hb]
    by_cases hc : c = 45
    · subst hc
      rfl
    · have : ¬ ((c.toNat : Nat) : Int) = 45 := fun h => hc (UInt8.toNat_inj.1 (by simpa using (by omega : c.toNat = 45)))
      rw [neT this, if_neg (by simp [hc])]
      rfl
theorem num_loop {n : Nat} (hn : 20 ≤ n) (w : Bytes) (hw : w.length ≤ 1048576) : ∀ (j i M : Nat) (x : Int), i + j = w.length → j + 1 ≤ M → i64 x →
    ∃ v b, f35_6 n M (bs w) x ((i : Nat) : Int) = some (v, b) ∧ (b = true → i64 v ∧ w = itoa v) := by
  intro j
  induction j with
  | zero =>
    intro i M x hi hM hx
    obtain ⟨M, rfl⟩ : ∃ q, M = q + 1 := ⟨M - 1, by omega⟩
    obtain rfl : i = w.length := by omega
    rw [num_end hn M w x hx]
    by_cases h : w.head? = some 45 ∨ w = []
    · rw [if_pos h]
      exact ⟨_, _, rfl, fun h => ⟨hx, (of_decide_eq_true h).symm⟩⟩
    · rw [if_neg h]
      exact ⟨_, _, rfl, fun h => ⟨wI_i64 _, (of_decide_eq_true h).symm⟩⟩
  | succ j ih =>
    intro i M x hi hM hx
    obtain ⟨M, rfl⟩ : ∃ q, M = q + 1 := ⟨M - 1, by omega⟩
    obtain ⟨h1, h2⟩ := in_len (l := w) (i := i) (j := j) (by omega)
    rw [f35_6_eq, h1, h2, castN (by omega)]
    simp only [cond_true]
    have hrest : ∃ v b, (bif decide (byteAt (bs w) ((i : Nat) : Int) < (48 : Int)) then some ((0 : Int), false) else bif decide (byteAt (bs w) ((i : Nat) : Int) > (57 : Int)) then some ((0 : Int), false) else
        f35_6 n M (bs w) (IntKind.i64.wrap (IntKind.i64.wrap (x * (10 : Int)) - IntKind.i64.wrap (IntKind.u8.wrap (byteAt (bs w) ((i : Nat) : Int) - (48 : Int))))) (((i + 1 : Nat) : Int))) = some (v, b) ∧ (b = true → i64 v ∧ w = itoa v) := by
      cases decide (byteAt (bs w) ((i : Nat) : Int) < 48) with
      | true => exact ⟨_, _, rfl, fun h => by cases h⟩
      | false =>
        cases decide (byteAt (bs w) ((i : Nat) : Int) > 57) with
        | true => exact ⟨_, _, rfl, fun h => by cases h⟩
        | false => exact ih (i + 1) M _ (by omega) (by omega) (wI_i64 _)
    cases byteAt (bs w) ((i : Nat) : Int) == (45 : Int) with
    | true =>
      cases ((i : Nat) : Int) == (0 : Int) with
      | true => exact ih (i + 1) M x (by omega) (by omega) hx
      | false => exact hrest
    | false => exact hrest
theorem num_digs {n : Nat} (w p : Bytes) (t : Bytes) (e : w = p ++ t) (hw : w.length ≤ 1048576) (hd : ∀ c ∈ t, isDig c) (hv : val 0 t ≤ 9223372036854775808) : ∀ (l2 l1 : Bytes) (M : Nat), t = l1 ++ l2 → l2.length + 1 ≤ M →
    ∃ m, M = m + 1 + l2.length ∧ f35_6 n M (bs w) (-((val 0 l1 : Nat) : Int)) (((p.length + l1.length : Nat)) : Int) = f35_6 n (m + 1) (bs w) (-((val 0 t : Nat) : Int)) ((w.length : Nat) : Int) := by
  intro l2
  induction l2 with
  | nil =>
    intro l1 M h hM
    obtain ⟨M, rfl⟩ : ∃ q, M = q + 1 := ⟨M - 1, by omega⟩
    rw [List.append_nil] at h
    subst h
    exact ⟨M, rfl, by rw [e, List.length_append]⟩
  | cons c l2 ih =>
    intro l1 M h hM
    obtain ⟨M, rfl⟩ : ∃ q, M = q + 1 := ⟨M - 1, by simp at hM; omega⟩
    have hlen : w.length = p.length + l1.length + (l2.length + 1) := by rw [e, h]; simp; omega
    have hc : isDig c := hd c (by rw [h]; simp)
    have hc2 := hc
    unfold isDig at hc2
    obtain ⟨h1, h2⟩ := in_len (l := w) (i := p.length + l1.length) (j := l2.length) (by omega)
    have hb : byteAt (bs w) (((p.length + l1.length : Nat)) : Int) = ((c.toNat : Nat) : Int) := by
      rw [e, h, show p ++ (l1 ++ c :: l2) = (p ++ l1) ++ c :: l2 by simp, show p.length + l1.length = (p ++ l1).length by simp]
      exact byte_mid
    have hvs := val_snoc 0 l1 c
    have hge : val 0 (l1 ++ [c]) ≤ val 0 t := by
      rw [h, show l1 ++ c :: l2 = (l1 ++ [c]) ++ l2 by simp, val_append 0 (l1 ++ [c]) l2]
      exact val_ge _ _
    rw [f35_6_eq, h1, h2, hb, castN (by omega), decide_eq_false (show ¬ ((c.toNat : Nat) : Int) < 48 by omega), decide_eq_false (show ¬ ((c.toNat : Nat) : Int) > 57 by omega), u8_dig hc, eqF (show ¬ ((c.toNat : Nat) : Int) = 45 by omega)]
    simp only [cond_true, cond_false]
    have e3 : IntKind.i64.wrap (IntKind.i64.wrap (-((val 0 l1 : Nat) : Int) * 10) - ((c.toNat - 48 : Nat) : Int)) = -((val 0 (l1 ++ [c]) : Nat) : Int) := by
      rw [wI (n := -((val 0 l1 : Nat) : Int) * 10) (by omega) (by omega), wI (by omega) (by omega)]
      omega
    rw [e3]
    obtain ⟨m, hm, h3⟩ := ih (l1 ++ [c]) M (by rw [h]; simp) (by simp at hM; omega)
    refine ⟨m, by simp; omega, ?_⟩
    rw [show p.length + (l1 ++ [c]).length = p.length + l1.length + 1 by simp; omega] at h3
    exact h3
theorem num_itoa {n : Nat} (hn : 100 ≤ n) {v : Int} (h : i64 v) : f35 n (bs (itoa v)) = some (v, true) := by
  have h1 := h.1
  have h2 := h.2
  rw [f35_eq]
  by_cases hv : v < 0
  · obtain ⟨u, rfl⟩ : ∃ u : Nat, v = -(u : Int) := ⟨v.natAbs, by omega⟩
    have hl := dec_len (u := u) (by omega)
    rw [itoa_neg u (by omega)]
    obtain ⟨n', hn'⟩ : ∃ k, n = k + 1 := ⟨n - 1, by omega⟩
    have hstep : f35_6 n n (bs (45 :: decDigits u)) 0 0 = f35_6 n n' (bs (45 :: decDigits u)) (-((val 0 [] : Nat) : Int)) ((([45] : Bytes).length + ([] : Bytes).length : Nat) : Int) := by
      rw [hn', f35_6_eq]
      have hz : decide ((0 : Int) < ((bs (45 :: decDigits u)).size : Int)) = true := decide_eq_true (by rw [bs_size, List.length_cons]; omega)
      have hz2 : decide ((0 : Int) ≤ (0 : Int) ∧ (0 : Int) < ((bs (45 :: decDigits u)).size : Int)) = true := decide_eq_true (by rw [bs_size, List.length_cons]; omega)
      rw [hz, hz2, show (byteAt (bs (45 :: decDigits u)) (0 : Int) == (45 : Int)) = true from rfl, beq_self_eq_true]
      rfl
    rw [hstep]
    obtain ⟨m, hm, h3⟩ := num_digs (n := n) (45 :: decDigits u) [45] (decDigits u) rfl (by simp; omega) (dec_digs u) (by rw [dec_val]; omega) (decDigits u) [] n' rfl (by omega)
    rw [h3, dec_val, num_end (by omega) m _ _ ⟨by omega, by omega⟩, if_pos (.inl rfl), itoa_neg u (by omega), decide_eq_true rfl]
  · obtain ⟨u, rfl⟩ := Int.eq_ofNat_of_zero_le (show 0 ≤ v by omega)
    have hl := dec_len (u := u) (by omega)
    rw [itoa_nonneg]
    obtain ⟨c, r, hcr, hc⟩ := dec_head u
    unfold isDig at hc
    obtain ⟨m, hm, h3⟩ := num_digs (n := n) (decDigits u) [] (decDigits u) rfl (by omega) (dec_digs u) (by rw [dec_val]; omega) (decDigits u) [] n rfl (by omega)
    have h3 : f35_6 n n (bs (decDigits u)) 0 0 = _ := h3
    rw [h3, dec_val, num_end (by omega) m _ _ ⟨by omega, by omega⟩, wI (by omega) (by omega), show (0 : Int) - -(u : Int) = (u : Int) by omega, itoa_nonneg, decide_eq_true rfl]
    rw [if_neg (by
      rw [hcr]
      rintro (h | h)
      · simp at h
        rw [h] at hc
        simp at hc
      · cases h)]
theorem num_ref {n : Nat} {w : Bytes} (hw : w.length ≤ 1048576) (hn : 1048600 ≤ n) : ∃ v b, f35 n (bs w) = some (v, b) ∧ (b = true → i64 v ∧ w = itoa v) := by
  rw [f35_eq]
  exact num_loop (by omega) w hw w.length 0 n 0 (by omega) (by omega) ⟨by decide, by decide⟩
/-! ### words -/
theorem smallM {a : Nat} (h : a ≤ 100000000) : decide (((a : Nat) : Int) > Int.ofNat (9223372036854775807 : Nat)) = false := decide_eq_false (by simp only [Int.ofNat_eq_natCast]; omega)
def cutW : Bytes → Bytes → Ws
  | cur, [] => [cur]
  | cur, c :: r => if c = 32 then cur :: cutW [] r else cutW (cur ++ [c]) r
theorem cut_tl : ∀ (r : Ws) (w cur : Bytes), (32 : UInt8) ∉ w → NoSp r → cutW cur (w ++ tl r) = (cur ++ w) :: r
  | [], [], cur, _, _ => by simp [tl, cutW]
  | x :: r, [], cur, _, h => by
    have := cut_tl r x [] (h x (by simp)) (fun y hy => h y (by simp [hy]))
    simp only [tl, List.nil_append, cutW, if_true, List.append_nil, this]
  | r, c :: w, cur, hw, h => by
    have hc : ¬ c = 32 := fun e => hw (by simp [e])
    have := cut_tl r w (cur ++ [c]) (fun e => hw (by simp [e])) h
    rw [List.cons_append, cutW, if_neg hc, this]
    simp
termination_by r w => (r.length, w.length)
theorem cut_jn {ws : Ws} (h : ws ≠ []) (hns : NoSp ws) : cutW [] (jn ws) = ws := by
  cases ws with
  | nil => exact (h rfl).elim
  | cons w r => exact cut_tl r w [] (hns w (by simp)) (fun y hy => hns y (by simp [hy]))
theorem cut_loop (n : Nat) (z : Fail) (s : Bytes) (hs : s.length ≤ 1048576) : ∀ (rest pre : Bytes) (acc : Ws) (cur : Bytes) (M : Nat), s = pre ++ rest → acc.length ≤ pre.length → cur.length ≤ pre.length → rest.length + 10 ≤ M →
    ∃ m, 9 ≤ m ∧ f25_10 n M (bs s) ((pre.length : Nat) : Int) z ((acc ++ [cur]).map bs) = f25_10 n (m + 1) (bs s) ((s.length : Nat) : Int) z ((acc ++ cutW cur rest).map bs) := by
  intro rest
  induction rest with
  | nil =>
    intro pre acc cur M e _ _ hM
    obtain ⟨M, rfl⟩ : ∃ q, M = q + 1 := ⟨M - 1, by omega⟩
    rw [List.append_nil] at e
    subst e
    exact ⟨M, by simp at hM; omega, rfl⟩
  | cons c rest ih =>
    intro pre acc cur M e ha hcur hM
    obtain ⟨M, rfl⟩ : ∃ q, M = q + 1 := ⟨M - 1, by simp at hM; omega⟩
    simp at hM
    have hlen : s.length = pre.length + (rest.length + 1) := by rw [e]; simp
    obtain ⟨h1, h2⟩ := in_len (l := s) (i := pre.length) (j := rest.length) (by omega)
    have hb : byteAt (bs s) ((pre.length : Nat) : Int) = ((c.toNat : Nat) : Int) := by rw [e]; exact byte_mid
    have hmb : maxBytes = 140737488355328 := by decide
    rw [f25_10_eq, h1, h2, hb, castN (by omega)]
    simp only [cond_true]
    by_cases hc : c = 32
    · subst hc
      rw [show (((32 : UInt8).toNat : Nat) : Int) == (32 : Int) from rfl, cond_true, decide_eq_true (by rw [List.length_map, List.length_append, hmb]; simp; omega), cond_true]
      obtain ⟨m, hm, h3⟩ := ih (pre ++ [32]) (acc ++ [cur]) [] M (by rw [e]; simp) (by simp; omega) (by simp) (by omega)
      refine ⟨m, hm, ?_⟩
      rw [show (pre ++ ([32] : Bytes)).length = pre.length + 1 by simp] at h3
      rw [show (acc ++ cutW cur (32 :: rest)) = (acc ++ [cur]) ++ cutW [] rest by simp [cutW], ← h3]
      simp [bs_empty]
    · have hc' : ¬ ((c.toNat : Nat) : Int) = 32 := fun h => hc (UInt8.toNat_inj.1 (by simpa using (by omega : c.toNat = 32)))
      have hl : (((List.map bs (acc ++ [cur])).length : Nat) : Int) = ((acc.length + 1 : Nat) : Int) := by simp
      have hw1 : IntKind.i64.wrap (((acc.length + 1 : Nat) : Int) - 1) = ((acc.length : Nat) : Int) := by rw [wI (by omega) (by omega)]; omega
      have hget : (List.map bs (acc ++ [cur])).getD acc.length ByteArray.empty = bs cur := by simp [List.getD_eq_getElem?_getD]
      have hx : (bs s).extract pre.length (pre.length + 1) = bs [c] := by
        rw [bs_extract, e]
        congr 1
        simp
      have hset : (List.map bs (acc ++ [cur])).set acc.length (bs cur ++ bs [c]) = List.map bs (acc ++ [cur ++ [c]]) := by
        rw [bs_append]
        simp [List.set_append_right]
      rw [eqF hc', cond_false, hl, hw1, decide_eq_true (show (0 : Int) ≤ ((acc.length : Nat) : Int) ∧ ((acc.length : Nat) : Int) < ((acc.length + 1 : Nat) : Int) by omega), cond_true, cond_true,
        decide_eq_true (show (0 : Int) ≤ ((pre.length : Nat) : Int) ∧ ((pre.length : Nat) : Int) ≤ ((pre.length + 1 : Nat) : Int) ∧ ((pre.length + 1 : Nat) : Int) ≤ ((bs s).size : Int) by rw [bs_size]; omega), cond_true]
      simp only [Int.toNat_natCast, hget, hx]
      rw [bs_size, bs_size, smallM (by simp; omega), cond_false, hset]
      obtain ⟨m, hm, h3⟩ := ih (pre ++ [c]) acc (cur ++ [c]) M (by rw [e]; simp) (by simp; omega) (by simp; omega) (by omega)
      refine ⟨m, hm, ?_⟩
      rw [show (pre ++ ([c] : Bytes)).length = pre.length + 1 by simp] at h3
      rw [show cutW cur (c :: rest) = cutW (cur ++ [c]) rest by rw [cutW, if_neg hc], ← h3]
/-! ### kinds -/
theorem kinds_ref {n : Nat} (hn : 20 ≤ n) (s : Bytes) {c r : Int} (hc : i64 c) (hr : i64 r) (z : Fail) : ∀ (j : Nat) (k : Int) (M : Nat), k + j = 6 → 1 ≤ k → j + 1 ≤ M →
    (∃ q, k ≤ q ∧ q ≤ 5 ∧ mayB (q, c, r) = true ∧ txt (q, c, r) = s ∧ f25_30 n M (bs s) c true r true k z = some ((q, c, r), true)) ∨
    ((∀ q, k ≤ q → q ≤ 5 → mayB (q, c, r) = true → txt (q, c, r) ≠ s) ∧ f25_30 n M (bs s) c true r true k z = some (zF, false)) := by
  intro j
  induction j with
  | zero =>
    intro k M hk _ hM
    obtain ⟨M, rfl⟩ : ∃ q, M = q + 1 := ⟨M - 1, by omega⟩
    rw [f25_30_eq, decide_eq_false (show ¬ k ≤ 5 by omega)]
    exact .inr ⟨fun q h1 h2 => by omega, rfl⟩
  | succ j ih =>
    intro k M hk hk1 hM
    obtain ⟨M, rfl⟩ : ∃ q, M = q + 1 := ⟨M - 1, by omega⟩
    rw [f25_30_eq, decide_eq_true (show k ≤ 5 by omega), may_eq, text_ref hn (f := (k, c, r)) ⟨⟨by show _ ≤ k; omega, by show k ≤ _; omega⟩, hc, hr⟩, wI (by omega) (by omega)]
    simp only [cond_true, Option.bind_some]
    rw [eqBA]
    have next := ih (k + 1) M (by omega) (by omega) (by omega)
    cases hm : mayB (k, c, r) with
    | false =>
      rw [cond_false]
      rcases next with ⟨q, h1, h2, h3, h4, h5⟩ | ⟨h1, h2⟩
      · exact .inl ⟨q, by omega, h2, h3, h4, h5⟩
      · refine .inr ⟨fun q a b d => ?_, h2⟩
        by_cases e : q = k
        · rw [e, hm] at d; cases d
        · exact h1 q (by omega) b d
    | true =>
      rw [cond_true]
      by_cases ht : txt (k, c, r) = s
      · rw [decide_eq_true ht, cond_true]
        exact .inl ⟨k, Int.le_refl _, by omega, hm, ht, rfl⟩
      · rw [decide_eq_false ht, cond_false]
        rcases next with ⟨q, h1, h2, h3, h4, h5⟩ | ⟨h1, h2⟩
        · exact .inl ⟨q, by omega, h2, h3, h4, h5⟩
        · refine .inr ⟨fun q a b d => ?_, h2⟩
          by_cases e : q = k
          · rw [e]; exact ht
          · exact h1 q (by omega) b d
theorem kinds_no (n m : Nat) (s : ByteArray) (c r : Int) (a b : Bool) (z : Fail) (h : (a && b) = false) : f25_30 n (m + 1) s c a r b 1 z = some (zF, false) := by
  rw [f25_30_eq]
  cases a
  · rfl
  · cases b
    · rfl
    · cases h
theorem parse_ref {n : Nat} (hn : 1048700 ≤ n) {s : Bytes} (hs : s.length ≤ 1048576) :
    (∃ f, i64F f ∧ mayB f = true ∧ s = txt f ∧ f25 n (bs s) = some (f, true)) ∨ ((∀ f, i64F f → mayB f = true → s ≠ txt f) ∧ f25 n (bs s) = some (zF, false)) := by
  rw [f25_eq, show s25x0 = bs none4 from rfl, eqBA]
  by_cases h4 : s = none4
  · rw [decide_eq_true h4]
    exact .inl ⟨zF, zF_i64, rfl, by rw [h4]; rfl, rfl⟩
  rw [decide_eq_false h4, cond_false]
  obtain ⟨m, hm, hl⟩ := cut_loop n zF s hs s [] [] [] n rfl (Nat.le_refl _) (Nat.le_refl _) (by omega)
  have hl : f25_10 n n (bs s) 0 zF [ByteArray.empty] = _ := hl
  rw [hl, f25_10_eq, at_len rfl, cond_false, List.nil_append]
  obtain ⟨ws, hne, hns, rfl⟩ := words_of _ s (Nat.le_refl _)
  rw [cut_jn hne hns]
  by_cases h3 : ws.length = 3
  · match ws, h3 with
    | [w0, w1, w2], _ =>
    have hlen := jn_mem_len (w0 := w0) (w1 := w1) (w2 := w2)
    obtain ⟨v1, b1, e1, u1⟩ := num_ref (n := n) (w := w1) (by omega) (by omega)
    obtain ⟨v2, b2, e2, u2⟩ := num_ref (n := n) (w := w2) (by omega) (by omega)
    have hred : (bif (((List.map bs [w0, w1, w2]).length : Nat) : Int) != (3 : Int) then some (((0 : Int), (0 : Int), (0 : Int)), false) else
      bif decide ((0 : Int) ≤ (1 : Int) ∧ (1 : Int) < (((List.map bs [w0, w1, w2]).length : Nat) : Int)) then
       (f35 n ((List.map bs [w0, w1, w2]).getD (1 : Nat) ByteArray.empty)).bind fun r1 =>
       bif decide ((0 : Int) ≤ (2 : Int) ∧ (2 : Int) < (((List.map bs [w0, w1, w2]).length : Nat) : Int)) then
        (f35 n ((List.map bs [w0, w1, w2]).getD (2 : Nat) ByteArray.empty)).bind fun r2 =>
        f25_30 n m (bs (jn [w0, w1, w2])) r1.fst r1.snd r2.fst r2.snd (1 : Int) zF
       else none
      else none) = f25_30 n m (bs (jn [w0, w1, w2])) v1 b1 v2 b2 (1 : Int) zF := by
      show ((f35 n (bs w1)).bind fun r1 => (f35 n (bs w2)).bind fun r2 => f25_30 n m (bs (jn [w0, w1, w2])) r1.fst r1.snd r2.fst r2.snd (1 : Int) zF) = _
      rw [e1, e2]
      rfl
    rw [hred]
    have no : (b1 && b2) = false → (∀ f, i64F f → mayB f = true → jn [w0, w1, w2] ≠ txt f) := fun hb f hf _ e => by
      obtain ⟨_, _, a1, a2⟩ := txt_words hns e
      rw [a1, num_itoa (by omega) hf.2.1] at e1
      rw [a2, num_itoa (by omega) hf.2.2] at e2
      injection e1 with e1
      injection e2 with e2
      injection e1 with _ e1
      injection e2 with _ e2
      rw [← e1, ← e2] at hb
      cases hb
    cases hb : b1 && b2 with
    | false =>
      obtain ⟨m', rfl⟩ : ∃ k, m = k + 1 := ⟨m - 1, by omega⟩
      rw [kinds_no n m' _ v1 v2 b1 b2 zF hb]
      exact .inr ⟨no hb, rfl⟩
    | true =>
      obtain ⟨rfl, rfl⟩ : b1 = true ∧ b2 = true := by simpa using hb
      obtain ⟨i1, a1⟩ := u1 rfl
      obtain ⟨i2, a2⟩ := u2 rfl
      rcases kinds_ref (n := n) (by omega) (jn [w0, w1, w2]) i1 i2 zF 5 1 m (by omega) (by omega) (by omega) with ⟨q, h1, h2, h3, h4, h5⟩ | ⟨h1, h2⟩
      · rw [h5]
        exact .inl ⟨_, ⟨⟨by show _ ≤ q; omega, by show q ≤ _; omega⟩, i1, i2⟩, h3, h4.symm, rfl⟩
      · rw [h2]
        refine .inr ⟨fun f hf hmf e => ?_, rfl⟩
        obtain ⟨hz, _, c1, c2⟩ := txt_words hns e
        obtain ⟨k1, k5⟩ := may_kind hmf hz
        obtain ⟨k, c, r⟩ := f
        have q1 : c = v1 := itoa_inj hf.2.1 i1 (c1.symm.trans a1)
        have q2 : r = v2 := itoa_inj hf.2.2 i2 (c2.symm.trans a2)
        subst q1 q2
        exact h1 k k1 k5 hmf e.symm
  · refine .inr ⟨fun f _ _ e => h3 (txt_three hne hns h4 e), ?_⟩
    rw [neT (show ¬ (((List.map bs ws).length : Nat) : Int) = 3 by rw [List.length_map]; omega)]
    rfl
end Go.Proofs.YthdddaikdiaijaaDoor
