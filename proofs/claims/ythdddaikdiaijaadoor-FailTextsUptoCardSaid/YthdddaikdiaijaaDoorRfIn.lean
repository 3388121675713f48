/- Regions whose order is drawn, that make variables and store into them: what lies outside may be read first; of two others each may come first. -/
import Derived.Test.YthdddaikdiaijaaDoorRfDr
namespace Go.Rf
open Go.RowKit (Below)
section
variable {P : Program} {C : Tab} {cx : Cx} {s s' s1 : St} {a : Act} {w w' : World} {ρ ρ' : Nat → Value} {R : Type} {out : List V → Mem → Option R} {J : Nat → St → Option R} {r : R}
/-- What an operation may change: a store into a new variable, nothing below N0. -/
def GN (C : Tab) (ops : Array Oper) (AT : List Nat) (N0 : Nat) (j : Nat) (w w' : World) : Prop :=
  match ops[j]? with
  | some o => if reads o.op = true then w' = w else if (quiet C o.op || isAlloc o.op) = true then Below w.heap.size w w' else if inSt AT o = true then Agree (fun k => N0 ≤ k) w w' else True
  | none => True
theorem goodN_out {ops : Array Oper} {AT : List Nat} {L : Array Bool} {i : Nat} {W : List Nat} (h : goodN C ops AT L i W = true) :
    (∀ j ∈ W, ∀ oj, ops[j]? = some oj → ∃ e ∈ oj.after, Region.binds .any e = true ∧ (e.on = i ∨ e.on ∈ W)) ∧ (∀ j ∈ W, L.getD j false = false) ∧
    (∀ j oj, ops[j]? = some oj → j ∉ W → L.getD j true = false → reads oj.op = true ∨ quiet C oj.op = true ∨ isAlloc oj.op = true ∨ inSt AT oj = true) := by
  unfold goodN at h
  simp only [Bool.and_eq_true] at h
  obtain ⟨h1, h2⟩ := h
  refine ⟨fun j hj oj ho => ?_, fun j hj => ?_, fun j oj ho hj hl => ?_⟩
  · have := (List.all_eq_true.1 h1 j hj)
    simp only [Bool.and_eq_true] at this
    have h3 := this.2
    rw [ho] at h3
    obtain ⟨e, he, hb⟩ := Array.any_eq_true'.1 h3
    simp only [Bool.and_eq_true, Bool.or_eq_true, beq_iff_eq, List.contains_iff_mem] at hb
    exact ⟨e, he, hb.1, hb.2⟩
  · have := (List.all_eq_true.1 h1 j hj)
    simp only [Bool.and_eq_true, Bool.not_eq_true'] at this
    have h3 := this.1.1
    rcases Nat.lt_or_ge j L.size with h' | h'
    · simp [h'] at h3 ⊢; exact h3
    · simp [Array.getElem?_eq_none h'] at h3
  · have := List.all_eq_true.1 h2 j (List.mem_range.2 (Array.getElem?_eq_some_iff.1 ho).1)
    rw [ho, hl] at this
    simp only [Bool.or_eq_true, List.contains_iff_mem, Bool.or_false] at this
    rcases this with h3 | h3
    · exact (hj h3).elim
    · rcases h3 with ((h3 | h3) | h3) | h3
      · exact .inl h3
      · exact .inr (.inl h3)
      · exact .inr (.inr (.inl h3))
      · exact .inr (.inr (.inr h3))
/-- A variable is made. -/
theorem alloc_in {T : TypeId} {o : Oper} {Q : Exit → Act → World → Prop} {K : V → St → Tree} {N : Act → World → Prop} (ho : o.op = .alloc T) (h : Sim cx s a w ρ) (hr : interp out J (evOp P C s o K) = some r)
    (hK : ∀ v s' ρ' ob, interp out J (K v s') = some r → Sim cx s' a (w.alloc ob) ρ' → VR (w.alloc ob) (Own cx ρ' s'.mem) ρ' s'.mem v (.pointer (some ⟨w.heap.size, 0, none⟩)) → N (a.put o.dst (.pointer (some ⟨w.heap.size, 0, none⟩))) (w.alloc ob)) : o.wp P a w N Q := by
  unfold evOp at hr
  rw [ho] at hr
  simp only at hr
  split at hr
  · rename_i d z hd hz
    split at hr
    · rename_i s2 hf
      obtain ⟨i, zv, t, hi, hzv, _, _, _, _, hfr⟩ := zeroV_sound hz
      have hrun : (execOp a.eval o).run P w = .ok (.value (.pointer (some ⟨w.heap.size, 0, none⟩))) (w.alloc (.cells zv.cells T)) := by
        unfold execOp
        rw [ho]
        simp [Instr.alloc, zeroValue, typeInfo, hi, hzv, newVar, newRow]
      exact wp_pure hrun (hK _ _ _ _ hr (h.newBox hf (key_le _) (x := zv) (cs := zv.cells.toList) (by simp) (hfr _ _ _ _).tagZ (has_tagZ (zero_nohas hz _)) (tag_tagZ (zeroV_tag hz))) (vr_ptr upd_same (getM_cons _ _ _)))
    · cases hr
  · cases hr
/-- The variables that were made lie above N0. -/
def Made (N0 : Nat) (D : List Nat) (a : Act) : Prop := ∀ t ∈ D, ∃ b, N0 ≤ b ∧ a.tmps.getD t undef = .pointer (some ⟨b, 0, none⟩)
theorem Made.put {N0 : Nat} {D : List Nat} (h : Made N0 D a) (dst : Option Nat) (x : Value) : Made N0 (D.filter fun t => dst != some t) (a.put dst x) := by
  intro t ht
  obtain ⟨h1, h2⟩ := List.mem_filter.1 ht
  obtain ⟨b, hb, he⟩ := h t h1
  refine ⟨b, hb, ?_⟩
  cases dst with
  | none => exact he
  | some d =>
    rw [← he]
    have hne : d ≠ t := by simpa using h2
    show (a.tmps.setIfInBounds d x).getD t undef = _
    simp only [Array.getD_eq_getD_getElem?, Array.getElem?_setIfInBounds]
    rw [if_neg hne]
theorem Made.new {N0 : Nat} {D : List Nat} (h : Made N0 D a) {t b : Nat} (ht : t < a.tmps.size) (hb : N0 ≤ b) : Made N0 (t :: D) (a.put (some t) (.pointer (some ⟨b, 0, none⟩))) := by
  intro u hu
  by_cases e : t = u
  · subst e
    refine ⟨b, hb, ?_⟩
    show (a.tmps.setIfInBounds t _).getD t undef = _
    simp [Array.getD_eq_getD_getElem?, ht]
  · obtain ⟨b', hb', he⟩ := h u (by rcases List.mem_cons.1 hu with h1 | h1; exact (e h1.symm).elim; exact h1)
    refine ⟨b', hb', ?_⟩
    rw [← he]
    show (a.tmps.setIfInBounds t _).getD u undef = _
    simp only [Array.getD_eq_getD_getElem?, Array.getElem?_setIfInBounds]
    rw [if_neg e]
theorem draw_inner {W0 : World} (hC : TabAt P W0 cx C) {ops : Array Oper} {Q : Exit → Act → World → Prop} (hsel : Region.noSelect ops = true) (hQ : ∀ c a w, ¬ Q (.panic c) a w) (AT : List Nat) (N0 : Nat) : ∀ (n : Nat) (fst : Bool) (D : List Nat) (L : Array Bool) {s : St} {a : Act} {w : World} {ρ : Nat → Value} {K : St → Tree}, Sim cx s a w ρ → (fst = true → w.heap.size ≤ N0) → Made N0 D a → N0 ≤ w.heap.size →
    interp out J (evOpsN P C ops AT n fst D L s K) = some r → (∀ s' a' w' ρ', Sim cx s' a' w' ρ' → interp out J (K s') = some r → Q .normal a' w') → wpAnyG P ops Q (GN C ops AT N0) n L a w
  | 0, fst, D, L, s, a, w, ρ, K, h, _, _, _, hr, hK => by
    simp only [evOpsN] at hr
    split at hr
    · rename_i hrd; exact ⟨hrd, hK s a w ρ h hr⟩
    · cases hr
  | n + 1, fst, D, L, s, a, w, ρ, K, h, hfst, hmade, hsz, hr, hK => by
    have ih := fun (i : Nat) (fst : Bool) (D : List Nat) {s : St} {a : Act} {w : World} {ρ : Nat → Value} (h : Sim cx s a w ρ) (h1 : fst = true → w.heap.size ≤ N0) (h2 : Made N0 D a) (h3 : N0 ≤ w.heap.size) (hr : interp out J (evOpsN P C ops AT n fst D (L.setIfInBounds i true) s K) = some r) => draw_inner hC hsel hQ AT N0 n fst D (L.setIfInBounds i true) h h1 h2 h3 hr hK
    -- one operation
    have plain : ∀ (i : Nat) (o : Oper), ops[i]? = some o → (reads o.op = true ∨ quiet C o.op = true ∨ ∃ T t x, o.op = .store T (.tmp t) x ∧ t ∈ D) → interp out J (stepW P C ops (fun _ => true) o s fun s' => evOpsN P C ops AT n false (D.filter fun t => o.dst != some t) (L.setIfInBounds i true) s' K) = some r →
        wpOp P ops Q i (fun a' w' => GN C ops AT N0 i w w' ∧ wpAnyG P ops Q (GN C ops AT N0) n (L.setIfInBounds i true) a' w') a w := by
      intro i o ho hkind hr
      rcases stepW_out h hr with ⟨s2, h2, _, hw, hr2⟩ | ⟨s2, h2, hw, hr2⟩
      · unfold wpOp
        simp only [ho, hw, if_true]
        refine .inl ?_
        by_cases hrd : reads o.op = true
        · obtain ⟨x, hrun, hn⟩ := evOp_reads (B := fun _ => False) (fun _ _ _ _ _ h => h) (fun _ _ h => h) (N := fun a' w' => Made N0 (D.filter fun t => o.dst != some t) a' → N0 ≤ w'.heap.size → wpAnyG P ops Q (GN C ops AT N0) n (L.setIfInBounds i true) a' w') hrd h2 hr2 (by
            intro v s' w' ρ' x hr3 h3 hv hm hs
            exact ih i false _ (h3.put o.dst hv) (fun h => by cases h) hm hs hr3)
          exact wp_pure (hrun w (Agree.refl _ w)) ⟨by unfold GN; rw [ho]; simp [hrd], hn (hmade.put _ _) hsz⟩
        have hnr : reads o.op = false := by simpa using hrd
        have hbelow : ∀ w', Below w.heap.size w w' → N0 ≤ w'.heap.size := fun w' hb => Nat.le_trans hsz hb.size
        have hN : Owed cx a o.dst out J r (fun v s' => evOpsN P C ops AT n false (D.filter fun t => o.dst != some t) (L.setIfInBounds i true) (s'.put o.dst v) K) (fun a' w' => N0 ≤ w'.heap.size → wpAnyG P ops Q (GN C ops AT N0) n (L.setIfInBounds i true) a' w') := by
          intro v s' w' ρ' x hr3 h3 hv hs
          exact ih i false _ (h3.put o.dst hv) (fun h => by cases h) (hmade.put _ _) hs hr3
        by_cases hst : ∃ T t x, o.op = .store T (.tmp t) x ∧ t ∈ D
        · obtain ⟨T, t, x, hop, ht⟩ := hst
          obtain ⟨b, hb, he⟩ := hmade t ht
          refine store_op hop h2 hr2 ?_
          intro v s' w' ρ' x hr3 h3 hv hag
          have hA := hag (fun k => N0 ≤ k) ⟨b, 0, none⟩ he hb
          refine ⟨?_, hN v s' w' ρ' x hr3 h3 hv (Nat.le_trans hsz hA.size)⟩
          unfold GN
          rw [ho]
          have hq : (quiet C o.op || isAlloc o.op) = false := by rw [hop]; rfl
          simp only [hnr, hq, Bool.false_eq_true, if_false]
          split
          · exact hA
          · trivial
        by_cases hdc : dataCall C o.op = true
        · refine Oper.wp_mono (fun a' w' hh => ⟨?_, hh.2 (hbelow _ hh.1)⟩) (dataCall_below hC hdc h2 hr2 hN)
          unfold GN
          rw [ho]
          simp only [hnr, quiet, hdc, Bool.or_true, Bool.true_or, Bool.false_eq_true, if_false, if_true]
          exact hh.1
        by_cases hbs : isBS o.op = true
        · obtain ⟨T, m, ps, hop⟩ : ∃ T m ps, o.op = .buildSlice T m ps := by
            cases hop : o.op <;> rw [hop] at hbs <;> simp [isBS] at hbs
            exact ⟨_, _, _, rfl⟩
          refine Oper.wp_mono (fun a' w' hh => ⟨?_, hh.2 (hbelow _ hh.1)⟩) (buildSlice_below hop h2 hr2 hN)
          unfold GN
          rw [ho]
          simp only [hnr, quiet, hbs, Bool.true_or, Bool.false_eq_true, if_false, if_true]
          exact hh.1
        exact (hkind.elim (fun h => hrd h) fun h => h.elim (fun h => by simp [quiet, hdc, hbs] at h) hst).elim
      · have hn := ih i false _ (h2.put o.dst (v := .undef) (rfl : V1 _ _ _ _ .undef undef)) (fun h => by cases h) (hmade.put _ _) hsz hr2
        unfold wpOp
        simp only [ho, hw]
        refine ⟨?_, hn⟩
        unfold GN
        rw [ho]
        simp only
        split
        · trivial
        · split
          · exact Below.refl _ w
          · split
            · exact Agree.refl _ w
            · trivial
    have alone : ∀ (i : Nat) (o : Oper), ops[i]? = some o → interp out J (stepN P C ops D o s fun D s' => evOpsN P C ops AT n false D (L.setIfInBounds i true) s' K) = some r →
        wpOp P ops Q i (fun a' w' => GN C ops AT N0 i w w' ∧ wpAnyG P ops Q (GN C ops AT N0) n (L.setIfInBounds i true) a' w') a w := by
      intro i o ho hr
      unfold stepN at hr
      split at hr
      · rename_i T t hop hdst hg
        split at hr
        · rename_i ht
          have ht := of_decide_eq_true ht
          unfold wpOp
          have hw : Region.wanted o (yielded ops a.tmps) = true := by simp [Region.wanted, hg]
          simp only [ho, hw, if_true]
          refine .inl (alloc_in hop h hr ?_)
          intro v s' ρ' ob hr3 h3 hv
          have hb : Below w.heap.size w (w.alloc ob) := (Below.refl _ w).alloc (Nat.le_refl _) _
          refine ⟨?_, ih i false _ (h3.put o.dst hv) (fun h => by cases h) ?_ (Nat.le_trans hsz hb.size) hr3⟩
          · unfold GN
            rw [ho]
            have hrd : reads o.op = false := by rw [hop]; rfl
            have hal : isAlloc o.op = true := by rw [hop]; rfl
            simp only [hrd, hal, Bool.or_true, Bool.false_eq_true, if_false, if_true]
            exact hb
          · rw [hdst]
            exact hmade.new (by rw [h.sz]; exact ht) hsz
        · cases hr
      · rename_i T t x hop
        split at hr
        · rename_i hc
          exact plain i o ho (.inr (.inr ⟨T, t, x, hop, by simpa using hc⟩)) hr
        · cases hr
      · split at hr
        · rename_i hc
          simp only [Bool.or_eq_true] at hc
          exact plain i o ho (hc.elim .inl fun h => .inr (.inl h)) hr
        · cases hr
    simp only [evOpsN] at hr
    split at hr
    · rename_i hrd
      exact ⟨fun _ => hK s a w ρ h hr, fun i hi => by rw [hrd] at hi; cases hi⟩
    · rename_i r0 rs hrd
      split at hr
      · rename_i i hf
        have hmem : i ∈ Region.ready .any ops L := by rw [hrd]; exact List.mem_of_find?_eq_some hf
        have hho := List.find?_some hf
        obtain ⟨o, ho, hreads, hfree, hgood⟩ : ∃ o, ops[i]? = some o ∧ reads o.op = true ∧ Region.free .any ops L i = true ∧ ((goodB C ops L i (behind ops i) = true ∨ isMove o.op = true) ∨ (fst = true ∧ goodN C ops AT L i (behind ops i) = true)) := by
          unfold hoistN at hho
          simp only [Bool.or_eq_true, Bool.and_eq_true] at hho
          rcases hho with h1 | h1
          · obtain ⟨o, h1, h2, h3, h4⟩ := hoistW_out h1
            exact ⟨o, h1, h2, h3, .inl h4⟩
          · obtain ⟨⟨⟨h1, h2⟩, h3⟩, h4⟩ := h1
            split at h2
            · rename_i o ho
              exact ⟨o, ho, h2, h3, .inr ⟨h1, h4⟩⟩
            · cases h2
        simp only [ho] at hr
        have hGi : ∀ w, GN C ops AT N0 i w w := fun w => by unfold GN; rw [ho]; simp [hreads]
        have take : ∀ (v : Value), goodB C ops L i (behind ops i) = true → YieldsIf P ops (fun w' => Below w.heap.size w w') o v a →
            wpAnyG P ops Q (GN C ops AT N0) n (L.setIfInBounds i true) (a.put o.dst v) w → wpAnyG P ops Q (GN C ops AT N0) (n + 1) L a w := by
          intro v hgood hy hn
          obtain ⟨g1, g2, g3⟩ := goodB_out hgood
          refine wpAnyG_firstW (S := fun w' => Below w.heap.size w w') (behind ops i) ho (Region.noSelect_spec hsel) (fun c a' w' hq => (hQ c _ w' hq).elim) hGi g1 n L a w ?_ (Region.free_spec ho hfree) g2 hmem hy (Below.refl _ w) hn
          intro j oj hj _ hjW hjl w1 w2 h1 hg
          unfold GN at hg
          rw [hj] at hg
          simp only at hg
          rcases g3 j oj hj hjW hjl with h3 | h3
          · rw [if_pos h3] at hg; rw [hg]; exact h1
          · split at hg
            · rw [hg]; exact h1
            · rw [if_pos (by rw [h3]; rfl)] at hg
              exact h1.trans (hg.mono h1.size)
        have takeN : ∀ (v : Value), fst = true → goodN C ops AT L i (behind ops i) = true → YieldsIf P ops (fun w' => Agree (fun _ => False) w w') o v a →
            wpAnyG P ops Q (GN C ops AT N0) n (L.setIfInBounds i true) (a.put o.dst v) w → wpAnyG P ops Q (GN C ops AT N0) (n + 1) L a w := by
          intro v hf hgood hy hn
          obtain ⟨g1, g2, g3⟩ := goodN_out hgood
          have hle := hfst hf
          refine wpAnyG_firstW (S := fun w' => Agree (fun _ => False) w w') (behind ops i) ho (Region.noSelect_spec hsel) (fun c a' w' hq => (hQ c _ w' hq).elim) hGi g1 n L a w ?_ (Region.free_spec ho hfree) g2 hmem hy (Agree.refl _ w) hn
          intro j oj hj _ hjW hjl w1 w2 h1 hg
          unfold GN at hg
          rw [hj] at hg
          simp only at hg
          split at hg
          · rw [hg]; exact h1
          · rename_i hnr
            split at hg
            · exact h1.trans (Agree.below hg)
            · rename_i hnq
              have hin : inSt AT oj = true := by
                rcases g3 j oj hj hjW hjl with h3 | h3 | h3 | h3
                · exact (hnr h3).elim
                · exact (hnq (by rw [h3]; rfl)).elim
                · exact (hnq (by rw [h3]; simp)).elim
                · exact h3
              rw [if_pos hin] at hg
              exact ⟨Nat.le_trans h1.size hg.size, fun k hk hn => (hg.block k (Nat.lt_of_lt_of_le hk h1.size) (by omega)).trans (h1.block k hk hn)⟩
        have still : ∀ (v : Value), YieldsIf P ops (fun _ => True) o v a →
            wpAnyG P ops Q (GN C ops AT N0) n (L.setIfInBounds i true) (a.put o.dst v) w → wpAnyG P ops Q (GN C ops AT N0) (n + 1) L a w := by
          intro v hy hn
          exact wpAnyG_firstW (S := fun _ => True) [] ho (Region.noSelect_spec hsel) (fun c a' w' hq => (hQ c _ w' hq).elim) hGi (fun _ h => by cases h) n L a w (fun _ _ _ _ _ _ _ _ _ _ => trivial) (Region.free_spec ho hfree) (fun _ h => by cases h) hmem hy trivial hn
        rcases stepW_out h hr with ⟨s2, h2, _, hw, hr2⟩ | ⟨s2, h2, hw, hr2⟩
        · obtain ⟨x, hrun, hn⟩ := evOp_reads (B := fun _ => False) (fun _ _ _ _ _ h => h) (fun _ _ h => h) (N := fun a' w' => (fst = true → w'.heap.size ≤ N0) → Made N0 (D.filter fun t => o.dst != some t) a' → N0 ≤ w'.heap.size → wpAnyG P ops Q (GN C ops AT N0) n (L.setIfInBounds i true) a' w') hreads h2 hr2 (by
            intro v s' w' ρ' x hr3 h3 hv h4 h5 h6
            exact ih i fst _ (h3.put o.dst hv) h4 h5 h6 hr3)
          have hn := hn hfst (hmade.put _ _) hsz
          rcases hgood with (hgood | hmv) | ⟨hf, hgood⟩
          · exact take x hgood (.inl ⟨hw, fun w' e => hrun w' (.below e)⟩) hn
          · refine still x (.inl ⟨hw, fun w' _ => ?_⟩) hn
            have h1 := hrun w (Agree.refl _ w)
            obtain ⟨y, hop⟩ : ∃ y, o.op = .move y := by
              cases hop : o.op <;> rw [hop] at hmv <;> simp [isMove] at hmv
              exact ⟨_, rfl⟩
            have e : ∀ w', (execOp a.eval o).run P w' = .ok (.value (a.eval y)) w' := by
              intro w'
              unfold execOp
              rw [hop]
              simp
            rw [e w] at h1
            injection h1 with h1
            injection h1 with h1
            rw [e w', h1]
          · exact takeN x hf hgood (.inl ⟨hw, hrun⟩) hn
        · have hn := ih i fst _ (h2.put o.dst (v := .undef) (rfl : V1 _ _ _ _ .undef undef)) hfst (hmade.put _ _) hsz hr2
          rcases hgood with (hgood | _) | ⟨hf, hgood⟩
          · exact take undef hgood (.inr ⟨hw, rfl⟩) hn
          · exact still undef (.inr ⟨hw, rfl⟩) hn
          · exact takeN undef hf hgood (.inr ⟨hw, rfl⟩) hn
      · split at hr
        · split at hr
          · rename_i o ho
            refine ⟨fun h0 => (by rw [hrd] at h0; cases h0), fun j hj => ?_⟩
            rw [hrd, List.mem_singleton] at hj
            subst hj
            exact alone _ o ho hr
          · cases hr
        · rename_i r2
          split at hr
          · rename_i o o2 ho ho2
            simp only [interp] at hr
            obtain ⟨hra, hrb⟩ := both_some hr
            refine ⟨fun h0 => (by rw [hrd] at h0; cases h0), fun j hj => ?_⟩
            rw [hrd] at hj
            rcases List.mem_cons.1 hj with e | hj
            · subst e; exact alone _ o ho hra
            · rw [List.mem_singleton] at hj
              subst hj
              exact alone _ o2 ho2 hrb
          · cases hr
        · cases hr
end
end Go.Rf
