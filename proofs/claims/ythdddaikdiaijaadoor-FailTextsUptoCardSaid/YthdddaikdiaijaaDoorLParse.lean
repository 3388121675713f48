/- A text read as a failure, by the program: it is the one whose text it is. -/
import Derived.Test.YthdddaikdiaijaaDoorLText
namespace Go.Proofs.YthdddaikdiaijaaDoor
open Go.Rf Go.Lib
abbrev zF : Fail := ((0 : Int), (0 : Int), (0 : Int))
theorem atoi_itoa {v : Int} (h : i64 v) : atoiAll (itoa v) = .ok v := by
  rw [← parseIntB_64]
  exact parse_itoa h
theorem atoi_all (n : Nat) {w : Bytes} (hw : w.length ≤ 281474976710656) : ∃ v b, f34L n (bs w) = some (v, b) ∧ i64 v ∧ ∀ u, i64 u → w = itoa u → v = u := by
  have hp : f34L n (bs w) = match atoiAll w with
    | .ok v => some (v, false)
    | .range => some (atoiSat w, true)
    | _ => some (0, true) := by
    show atoiF (bs w) = _
    unfold atoiF
    rw [if_pos (by rw [bs_size]; exact hw)]
    rfl
  rw [hp]
  cases h : atoiAll w with
  | ok v => exact ⟨v, false, rfl, atoiAll_bounds h, fun u hu e => by rw [e, atoi_itoa hu] at h; injection h with h; exact h.symm⟩
  | range => exact ⟨_, true, rfl, atoiSat_bounds w, fun u hu e => by rw [e, atoi_itoa hu] at h; cases h⟩
  | _ => exact ⟨0, true, rfl, ⟨by decide, by decide⟩, fun u hu e => by rw [e, atoi_itoa hu] at h; cases h⟩
/-- What is asked behind the kinds. -/
noncomputable def restG (n : Nat) (s p1 p2 : ByteArray) (kd : Int) : Option (Fail × Int) :=
  (f34L n p1).bind fun r2 => (f34L n p2).bind fun r3 =>
  bif kd == (0 : Int) then some (zF, (30 : Int)) else
  (f18 n (kd, r2.fst, r3.fst)).bind fun r4 =>
  bif r4 != (0 : Int) then some (zF, (30 : Int)) else
  (f26 n (kd, r2.fst, r3.fst)).bind fun r5 =>
  bif !ByteArray.toList r5 == s.toList then some (zF, (30 : Int)) else some ((kd, r2.fst, r3.fst), (0 : Int))
theorem kind_step (n m : Nat) (s p1 p2 : ByteArray) (w : Bytes) (z b : Fail) {j : Int} (h1 : 1 ≤ j) (h5 : j ≤ 5) :
    f24_16 n (m + 1) s [bs w, p1, p2] j z b = f24_16 n m s [bs w, p1, p2] (j + 1) z (if wrd j = w then (j, b.2) else b) := by
  rw [f24_16_eq, decide_eq_true h5, word_eq n ⟨by omega, by omega⟩, wI (by omega) (by omega)]
  simp only [cond_true, Option.bind_some]
  rw [decide_eq_true (show (0 : Int) ≤ (0 : Int) ∧ (0 : Int) < (([bs w, p1, p2] : List ByteArray).length : Int) by simp), cond_true]
  have e : ([bs w, p1, p2] : List ByteArray).getD (0 : Nat) ByteArray.empty = bs w := rfl
  rw [e, eqBA]
  by_cases hw : wrd j = w
  · rw [decide_eq_true hw, if_pos hw]; rfl
  · rw [decide_eq_false hw, if_neg hw]; rfl
theorem kind_end (n m : Nat) (s p1 p2 w : ByteArray) (z b : Fail) : f24_16 n (m + 1) s [w, p1, p2] 6 z b = restG n s p1 p2 b.1 := by
  rw [f24_16_eq]
  rfl
theorem kind_loop (n m : Nat) (s p1 p2 : ByteArray) (w : Bytes) : ∃ kd : Int, f24_16 n (m + 6) s [bs w, p1, p2] 1 zF zF = restG n s p1 p2 kd ∧ ((kd = 0 ∧ ∀ k, 1 ≤ k → k ≤ 5 → wrd k ≠ w) ∨ (1 ≤ kd ∧ kd ≤ 5 ∧ wrd kd = w)) := by
  rw [kind_step n _ s p1 p2 w zF _ (j := 1) (by decide) (by decide), kind_step n _ s p1 p2 w zF _ (j := 1 + 1) (by decide) (by decide), kind_step n _ s p1 p2 w zF _ (j := 1 + 1 + 1) (by decide) (by decide),
    kind_step n _ s p1 p2 w zF _ (j := 1 + 1 + 1 + 1) (by decide) (by decide), kind_step n _ s p1 p2 w zF _ (j := 1 + 1 + 1 + 1 + 1) (by decide) (by decide), show (1 + 1 + 1 + 1 + 1 + 1 : Int) = 6 by decide, kind_end]
  refine ⟨_, rfl, ?_⟩
  by_cases h5 : wrd (1 + 1 + 1 + 1 + 1) = w
  · rw [if_pos h5]; exact .inr ⟨(by decide : (1 : Int) ≤ 1 + 1 + 1 + 1 + 1), (by decide : (1 + 1 + 1 + 1 + 1 : Int) ≤ 5), h5⟩
  rw [if_neg h5]
  by_cases h4 : wrd (1 + 1 + 1 + 1) = w
  · rw [if_pos h4]; exact .inr ⟨(by decide : (1 : Int) ≤ 1 + 1 + 1 + 1), (by decide : (1 + 1 + 1 + 1 : Int) ≤ 5), h4⟩
  rw [if_neg h4]
  by_cases h3 : wrd (1 + 1 + 1) = w
  · rw [if_pos h3]; exact .inr ⟨(by decide : (1 : Int) ≤ 1 + 1 + 1), (by decide : (1 + 1 + 1 : Int) ≤ 5), h3⟩
  rw [if_neg h3]
  by_cases h2 : wrd (1 + 1) = w
  · rw [if_pos h2]; exact .inr ⟨(by decide : (1 : Int) ≤ 1 + 1), (by decide : (1 + 1 : Int) ≤ 5), h2⟩
  rw [if_neg h2]
  by_cases h1 : wrd 1 = w
  · rw [if_pos h1]; exact .inr ⟨(by decide : (1 : Int) ≤ 1), (by decide : (1 : Int) ≤ 5), h1⟩
  rw [if_neg h1]
  refine .inl ⟨rfl, fun k hk1 hk5 => ?_⟩
  have : k = 1 ∨ k = 2 ∨ k = 3 ∨ k = 4 ∨ k = 5 := by omega
  rcases this with rfl | rfl | rfl | rfl | rfl
  · exact h1
  · exact h2
  · exact h3
  · exact h4
  · exact h5
theorem zF_i64 : i64F zF := ⟨⟨by decide, by decide⟩, ⟨by decide, by decide⟩, ⟨by decide, by decide⟩⟩
theorem may_kind {f : Fail} (h : mayB f = true) (hz : ¬ zeroF f) : 1 ≤ f.1 ∧ f.1 ≤ 5 := by
  obtain ⟨k, c, r⟩ := f
  rcases cases5 k with rfl | rfl | rfl | rfl | rfl | rfl | ⟨h0, h1, h2, h3, h4, h5⟩
  · exfalso
    apply hz
    simp [mayB] at h
    exact ⟨rfl, h⟩
  · exact ⟨(by decide : (1 : Int) ≤ 1), (by decide : (1 : Int) ≤ 5)⟩
  · exact ⟨(by decide : (1 : Int) ≤ 2), (by decide : (2 : Int) ≤ 5)⟩
  · exact ⟨(by decide : (1 : Int) ≤ 3), (by decide : (3 : Int) ≤ 5)⟩
  · exact ⟨(by decide : (1 : Int) ≤ 4), (by decide : (4 : Int) ≤ 5)⟩
  · exact ⟨(by decide : (1 : Int) ≤ 5), (by decide : (5 : Int) ≤ 5)⟩
  · simp [mayB, h0, h1, h2, h3, h4, h5] at h
/-- A text of three words that is a failure's. -/
theorem txt_words {f : Fail} {w0 w1 w2 : Bytes} (hns : NoSp [w0, w1, w2]) (h : jn [w0, w1, w2] = txt f) : ¬ zeroF f ∧ w0 = wrd f.1 ∧ w1 = itoa f.2.1 ∧ w2 = itoa f.2.2 := by
  unfold txt at h
  split at h
  · rw [none_jn] at h
    have := jn_inj (by simp) (by simp) hns (fun w hw => by rw [List.mem_singleton] at hw; subst hw; decide) h
    simp at this
  · rename_i hz
    have := jn_inj (by simp) (by simp) hns (nosp3 _ _ _) h
    simp only [List.cons.injEq, and_true] at this
    exact ⟨hz, this.1, this.2.1, this.2.2⟩
theorem txt_three {f : Fail} {ws : Ws} (h0 : ws ≠ []) (hns : NoSp ws) (hn : jn ws ≠ none4) (h : jn ws = txt f) : ws.length = 3 := by
  unfold txt at h
  split at h
  · exact (hn h).elim
  · rw [jn_inj h0 (by simp) hns (nosp3 _ _ _) h]
    rfl
theorem split_eq (n : Nat) {ws : Ws} (h : ws ≠ []) (hns : NoSp ws) (hl : (jn ws).length ≤ 1048576) : f32L n (bs (jn ws)) s24x1 = some (ws.map bs) := by
  show splitF (bs (jn ws)) (bs [32]) = _
  unfold splitF
  rw [if_pos ⟨by rw [bs_size]; omega, by rw [bs_size]; simp⟩, split_jn ws h hns]
theorem jn_mem_len {w0 w1 w2 : Bytes} : w0.length + w1.length + w2.length ≤ (jn [w0, w1, w2]).length := by
  rw [jn3]
  simp
  omega
theorem parse_go {n : Nat} (hn : 10 ≤ n) {s : Bytes} (hs : s.length ≤ 1048576) :
    (∃ f, i64F f ∧ mayB f = true ∧ s = txt f ∧ f24 n (bs s) = some (f, (0 : Int))) ∨ ((∀ f, i64F f → mayB f = true → s ≠ txt f) ∧ f24 n (bs s) = some (zF, (30 : Int))) := by
  rw [f24_eq, show s24x0 = bs none4 from rfl, eqBA]
  by_cases h4 : s = none4
  · rw [decide_eq_true h4]
    exact .inl ⟨zF, zF_i64, rfl, by rw [h4]; rfl, rfl⟩
  rw [decide_eq_false h4, cond_false]
  obtain ⟨ws, hne, hns, rfl⟩ := words_of _ s (Nat.le_refl _)
  rw [split_eq n hne hns hs]
  simp only [Option.bind_some]
  by_cases h3 : ws.length = 3
  · match ws, h3 with
    | [w0, w1, w2], _ =>
    have hlen := jn_mem_len (w0 := w0) (w1 := w1) (w2 := w2)
    rw [show (((List.length (List.map bs [w0, w1, w2]) : Nat) : Int) != (3 : Int)) = false from rfl, cond_false]
    obtain ⟨n, rfl⟩ : ∃ k, n = k + 6 := ⟨n - 6, by omega⟩
    obtain ⟨kd, hk, hkd⟩ := kind_loop (n + 6) n (bs (jn [w0, w1, w2])) (bs w1) (bs w2) w0
    have hk : f24_16 (n + 6) (n + 6) (bs (jn [w0, w1, w2])) (List.map bs [w0, w1, w2]) 1 zF zF = _ := hk
    show (∃ f, i64F f ∧ mayB f = true ∧ jn [w0, w1, w2] = txt f ∧ f24_16 (n + 6) (n + 6) (bs (jn [w0, w1, w2])) (List.map bs [w0, w1, w2]) 1 zF zF = some (f, (0 : Int))) ∨ ((∀ f, i64F f → mayB f = true → jn [w0, w1, w2] ≠ txt f) ∧ f24_16 (n + 6) (n + 6) (bs (jn [w0, w1, w2])) (List.map bs [w0, w1, w2]) 1 zF zF = some (zF, (30 : Int)))
    rw [hk]
    obtain ⟨v1, b1, e1, i1, u1⟩ := atoi_all (n + 6) (w := w1) (by omega)
    obtain ⟨v2, b2, e2, i2, u2⟩ := atoi_all (n + 6) (w := w2) (by omega)
    unfold restG
    rw [e1, e2]
    simp only [Option.bind_some]
    rcases hkd with ⟨rfl, hno⟩ | ⟨hk1, hk5, hkw⟩
    · refine .inr ⟨fun f hf hm e => ?_, rfl⟩
      obtain ⟨hz, a0, _, _⟩ := txt_words hns e
      obtain ⟨c1, c5⟩ := may_kind hm hz
      exact hno f.1 c1 c5 a0.symm
    · have hfi : i64F (kd, v1, v2) := ⟨⟨by show _ ≤ kd; omega, by show kd ≤ _; omega⟩, i1, i2⟩
      have huniq : ∀ g, i64F g → jn [w0, w1, w2] = txt g → g = (kd, v1, v2) := fun g hg e => by
        obtain ⟨_, a0, a1, a2⟩ := txt_words hns e
        obtain ⟨g0, g1, g2⟩ := g
        have q0 : g0 = kd := wrd_inj hg.1 hfi.1 (a0.symm.trans hkw.symm)
        have q1 : v1 = g1 := u1 _ hg.2.1 a1
        have q2 : v2 = g2 := u2 _ hg.2.2 a2
        rw [q0, q1, q2]
      rw [eqF (show ¬ kd = 0 by omega), check_eq, text_go _ hfi]
      simp only [cond_false, Option.bind_some]
      rw [eqBA]
      cases hm : mayB (kd, v1, v2) with
      | false =>
        refine .inr ⟨fun g hg hmg e => ?_, rfl⟩
        rw [huniq g hg e, hm] at hmg
        cases hmg
      | true =>
        by_cases ht : txt (kd, v1, v2) = jn [w0, w1, w2]
        · rw [decide_eq_true ht]
          exact .inl ⟨_, hfi, hm, ht.symm, rfl⟩
        · rw [decide_eq_false ht]
          refine .inr ⟨fun g hg _ e => ?_, rfl⟩
          rw [huniq g hg e] at e
          exact ht e.symm
  · refine .inr ⟨fun f _ _ e => h3 (txt_three hne hns h4 e), ?_⟩
    rw [neT (show ¬ ((List.length (List.map bs ws) : Nat) : Int) = 3 by rw [List.length_map]; omega)]
    rfl
end Go.Proofs.YthdddaikdiaijaaDoor
