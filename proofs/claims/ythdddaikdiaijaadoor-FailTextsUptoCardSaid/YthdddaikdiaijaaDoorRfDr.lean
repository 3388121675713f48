/- Regions: in order, and in any order that may be drawn. -/
import Derived.Test.YthdddaikdiaijaaDoorRfN
namespace Go.Rf
open Go.RowKit (Below)
section
variable {P : Program} {C : Tab} {cx : Cx} {s s' s1 : St} {a : Act} {w w' : World} {ρ ρ' : Nat → Value} {R : Type} {out : List V → Mem → Option R} {J : Nat → St → Option R} {r : R}
/-- What is known of a slot is noted. -/
theorem Sim.note (h : Sim cx s a w ρ) {d : Nat} {v : V} (hv : VR w (Own cx ρ s.mem) ρ s.mem v (a.tmps.getD d undef)) : Sim cx (s.put (some d) v) a w ρ := by
  refine ⟨h.sz, h.df, h.be, h.fo, h.ge, h.no, h.ds, h.ob, fun t => ?_, h.pl, h.pn⟩
  show VR w (Own cx ρ s.mem) ρ s.mem ((s.fr.set d (if d < s.n then v else .any)).get t) (a.tmps.getD t undef)
  rcases Fr.get_set s.fr d t (if d < s.n then v else .any) with ⟨e, h1 | h1⟩ | ⟨hne, h1⟩
  · rw [h1]
    split
    · subst e; exact hv
    · trivial
  · rw [h1]; trivial
  · rw [h1]; exact h.fr t
theorem yielded_bool {ops : Array Oper} {j d : Nat} {b : Bool} (hg : guardOf ops j = some d) (hv : a.tmps.getD d undef = .bool b) : yielded ops a.tmps j = some b := by
  unfold guardOf at hg
  unfold yielded
  rw [hg]
  simp only [Option.bind_some]
  have : a.tmps[d]? = some (.bool b) := by
    cases ht : a.tmps[d]? with
    | none => simp [Array.getD_eq_getD_getElem?, ht, undef] at hv
    | some x => simp [Array.getD_eq_getD_getElem?, ht] at hv; rw [hv]
  rw [this]
theorem yielded_undef {ops : Array Oper} {j d : Nat} (hg : guardOf ops j = some d) (hv : a.tmps.getD d undef = undef) : yielded ops a.tmps j = none := by
  unfold guardOf at hg
  unfold yielded
  rw [hg]
  simp only [Option.bind_some]
  cases ht : a.tmps[d]? with
  | none => rfl
  | some x =>
    have : x = undef := by simpa [Array.getD_eq_getD_getElem?, ht] using hv
    rw [this]
    rfl
theorem evOps_sound {W0 : World} (hC : TabAt P W0 cx C) {ops : Array Oper} {Q : Exit → Act → World → Prop} : ∀ (os : List Oper) {s : St} {a : Act} {w : World} {ρ : Nat → Value} {K : St → Tree}, Sim cx s a w ρ → interp out J (evOps P C ops os s K) = some r →
    (∀ s' a' w' ρ', Sim cx s' a' w' ρ' → interp out J (K s') = some r → Q .normal a' w') → wpList P ops Q os a w
  | [], s, a, w, ρ, K, h, hr, hK => hK s a w ρ h hr
  | o :: os, s, a, w, ρ, K, h, hr, hK => by
    have exec : ∀ {s2 : St}, Sim cx s2 a w ρ → interp out J (evOp P C s2 o fun v s' => evOps P C ops os (s'.put o.dst v) K) = some r → o.wp P a w (wpList P ops Q os) Q := by
      intro s2 h2 hr2
      refine evOp_sound hC h2 hr2 ?_
      intro v s' w' ρ' x hr3 h3 hv
      exact evOps_sound hC os (h3.put o.dst hv) hr3 hK
    have skip : ∀ {s2 : St}, Sim cx s2 a w ρ → interp out J (evOps P C ops os (s2.put o.dst .undef) K) = some r → wpList P ops Q os (a.put o.dst undef) w := by
      intro s2 h2 hr2
      exact evOps_sound hC os (h2.put o.dst (v := .undef) (rfl : V1 _ _ _ _ .undef undef)) hr2 hK
    unfold evOps at hr
    unfold wpList
    split at hr
    · rename_i hg
      rw [if_pos (by simp [Region.wanted, hg])]
      exact .inl (exec h hr)
    · rename_i j wt hg
      split at hr
      · rename_i d hgo
        have hd := h.fr d
        split at hr
        · rename_i b hb
          rw [hb] at hd
          have hdv := hd.bool
          have hy := yielded_bool hgo hdv
          have note : ∀ b', b = b' → Sim cx (s.put (some d) (.bool b')) a w ρ := fun b' e => h.note (by rw [hdv, e]; exact vr_bool _)
          cases wt with
          | true =>
            cases b with
            | true =>
              rw [if_pos (by simp [Region.wanted, hg, hy])]
              exact .inl (exec (note true rfl) hr)
            | false =>
              rw [if_neg (by simp [Region.wanted, hg, hy])]
              exact skip (note false rfl) hr
          | false =>
            cases b with
            | true =>
              rw [if_neg (by simp [Region.wanted, hg, hy])]
              exact skip (note true rfl) hr
            | false =>
              rw [if_pos (by simp [Region.wanted, hg, hy])]
              exact .inl (exec (note false rfl) hr)
        · rename_i hb
          rw [hb] at hd
          have hdv : a.tmps.getD d undef = undef := hd
          have hy := yielded_undef hgo hdv
          rw [if_neg (by simp [Region.wanted, hg, hy])]
          exact skip h hr
        · cases hr
      · cases hr
theorem sched_out {ops : Array Oper} : ∀ {n : Nat} {L : Array Bool} {l : List Nat}, sched ops n L = some l →
    (l = [] ∧ Region.ready .any ops L = []) ∨ ∃ i o l' n', l = i :: l' ∧ ops[i]? = some o ∧ sched ops n' (L.setIfInBounds i true) = some l' ∧
      ((reads o.op = true ∧ Region.free .any ops L i = true ∧ (Region.ready .any ops L).contains i = true) ∨ ((isCall o.op || isStore o.op) = true ∧ Region.ready .any ops L = [i]))
  | 0, L, l, h => by
    simp only [sched] at h
    split at h
    · rename_i hr; cases h; exact .inl ⟨rfl, hr⟩
    · cases h
  | n + 1, L, l, h => by
    simp only [sched] at h
    split at h
    · rename_i hr; cases h; exact .inl ⟨rfl, hr⟩
    · rename_i r rs hr
      split at h
      · rename_i i hf
        obtain ⟨l', h1, rfl⟩ := Option.map_eq_some_iff.1 h
        have hp := List.find?_some hf
        have hm := List.mem_of_find?_eq_some hf
        simp only [Bool.and_eq_true] at hp
        obtain ⟨hp1, hp2⟩ := hp
        split at hp1
        · rename_i o ho
          exact .inr ⟨i, o, l', n, rfl, ho, h1, .inl ⟨hp1, hp2, by rw [hr]; simpa using hm⟩⟩
        · cases hp1
      · split at h
        · obtain ⟨l', h1, rfl⟩ := Option.map_eq_some_iff.1 h
          have hh : (match ops[r]? with | some o => isCall o.op || isStore o.op | none => false) = true := by assumption
          cases ho : ops[r]? with
          | none => rw [ho] at hh; cases hh
          | some o =>
            rw [ho] at hh
            exact .inr ⟨r, o, l', n, rfl, ho, h1, .inr ⟨hh, hr⟩⟩
        · cases h
theorem wpAnyH_weaken {ops : Array Oper} {Q : Exit → Act → World → Prop} {S S' : World → Prop} (hS : ∀ w, S' w → S w) : ∀ (n : Nat) (L : Array Bool) (a : Act) (w : World), wpAnyH P .any ops Q S' n L a w → wpAnyH P .any ops Q S n L a w
  | 0, _, _, _, h => h
  | n + 1, _, _, _, h => ⟨h.1, fun i hi => wpOp_mono (fun a' w' h' => ⟨hS w' h'.1, wpAnyH_weaken hS n _ a' w' h'.2⟩) (h.2 i hi)⟩
/-- A region whose order is drawn may be gone through in one order: what only reads first, calls one by one. -/
theorem draw_ops {W0 : World} (hC : TabAt P W0 cx C) (hos : C.os = []) {ops : Array Oper} {Q : Exit → Act → World → Prop} (hns : ∀ (j : Nat) (o : Oper), ops[j]? = some o → isStore o.op = false) (hsel : Region.noSelect ops = true) (hQ : ∀ c a w, ¬ Q (.panic c) a w) : ∀ (l : List Nat) (n : Nat) (L : Array Bool), sched ops n L = some l → ∀ {s : St} {a : Act} {w : World} {ρ : Nat → Value} {K : St → Tree}, Sim cx s a w ρ →
    interp out J (evOps P C ops (l.filterMap fun i => ops[i]?) s K) = some r → (∀ s' a' w' ρ', Sim cx s' a' w' ρ' → interp out J (K s') = some r → Q .normal a' w') → wpAnyH P .any ops Q (fun w' => Below w.heap.size w w') l.length L a w
  | [], n, L, hsc, s, a, w, ρ, K, h, hr, hK => by
    rcases sched_out hsc with ⟨_, h1⟩ | ⟨_, _, _, _, h1, _⟩
    · exact wpAnyH_done h1 (hK s a w ρ h hr) 0
    · cases h1
  | i :: l, n, L, hsc, s, a, w, ρ, K, h, hr, hK => by
    rcases sched_out hsc with ⟨h1, _⟩ | ⟨i', o, l', n', h1, ho, hsc', hkind⟩
    · cases h1
    · cases h1
      have ih := fun {s : St} {a : Act} {w : World} {ρ : Nat → Value} (h : Sim cx s a w ρ) (hr : interp out J (evOps P C ops (l.filterMap fun i => ops[i]?) s K) = some r) => draw_ops hC hos hns hsel hQ l n' _ hsc' h hr hK
      have e1 : ((i :: l).filterMap fun i => ops[i]?) = o :: (l.filterMap fun i => ops[i]?) := by simp [ho]
      rw [e1] at hr
      have exec : ∀ {s2 : St}, Sim cx s2 a w ρ → Region.wanted o (yielded ops a.tmps) = true → interp out J (evOp P C s2 o fun v s' => evOps P C ops (l.filterMap fun i => ops[i]?) (s'.put o.dst v) K) = some r →
          wpAnyH P .any ops Q (fun w' => Below w.heap.size w w') (l.length + 1) L a w := by
        intro s2 h2 hw hr2
        rcases hkind with ⟨hrd, hfree, hready⟩ | ⟨hcall, hready⟩
        · obtain ⟨x, hrun, hn⟩ := evOp_reads (B := fun _ => False) (fun _ _ _ _ _ h => h) (fun _ _ h => h) (N := fun a' w' => wpAnyH P .any ops Q (fun w'' => Below w'.heap.size w' w'') l.length (L.setIfInBounds i true) a' w') hrd h2 hr2 (by
            intro v s' w' ρ' x hr3 h3 hv
            exact ih (h3.put o.dst hv) hr3)
          exact wpAnyH_take ho hsel hfree hready (fun c a' w' hq => (hQ c _ w' hq).elim) (.inl ⟨hw, fun w' e => hrun w' (.below e)⟩) (Below.refl _ w) hn
        · refine wpAnyH_all hready (by simp) ?_
          intro j hj
          simp only [List.mem_singleton] at hj
          subst hj
          unfold wpOp
          simp only [ho, hw, if_true]
          refine .inl ?_
          rw [hns _ o ho, Bool.or_false] at hcall
          obtain ⟨c, hc1, xo, hc2⟩ : ∃ c, o.op = .call c ∧ ∃ xo, c.callee = .value xo := by
            cases hop : o.op <;> rw [hop] at hcall <;> simp only [isCall] at hcall <;> try (cases hcall; done)
            rename_i c
            cases hcc : c.callee with
            | value f => exact ⟨c, rfl, f, hcc⟩
            | invoke _ _ => rw [hcc] at hcall; cases hcall
            | builtin _ => rw [hcc] at hcall; cases hcall
          refine call_sound hC (.inl hos) hc1 hc2 h2 hr2 ?_
          intro v s' w' ρ' x hr3 h3 hv hb'
          refine ⟨hb', wpAnyH_weaken (S' := fun w'' => Below w'.heap.size w' w'') (fun w'' hb2 => hb'.trans (hb2.mono hb'.size)) _ _ _ _ (ih (h3.put o.dst hv) hr3)⟩
      have skip : ∀ {s2 : St}, Sim cx s2 a w ρ → Region.wanted o (yielded ops a.tmps) = false → interp out J (evOps P C ops (l.filterMap fun i => ops[i]?) (s2.put o.dst .undef) K) = some r →
          wpAnyH P .any ops Q (fun w' => Below w.heap.size w w') (l.length + 1) L a w := by
        intro s2 h2 hw hr2
        have hn := ih (h2.put o.dst (v := .undef) (rfl : V1 _ _ _ _ .undef undef)) hr2
        rcases hkind with ⟨hrd, hfree, hready⟩ | ⟨hcall, hready⟩
        · exact wpAnyH_take ho hsel hfree hready (fun c a' w' hq => (hQ c _ w' hq).elim) (.inr ⟨hw, rfl⟩) (Below.refl _ w) hn
        · refine wpAnyH_all hready (by simp) ?_
          intro j hj
          simp only [List.mem_singleton] at hj
          subst hj
          unfold wpOp
          simp only [ho, hw]
          exact ⟨Below.refl _ w, hn⟩
      unfold evOps at hr
      split at hr
      · rename_i hg
        exact exec h (by simp [Region.wanted, hg]) hr
      · rename_i j wt hg
        split at hr
        · rename_i d hgo
          have hd := h.fr d
          split at hr
          · rename_i b hb
            rw [hb] at hd
            have hdv := hd.bool
            have hy := yielded_bool hgo hdv
            have note : ∀ b', b = b' → Sim cx (s.put (some d) (.bool b')) a w ρ := fun b' e => h.note (by rw [hdv, e]; exact vr_bool _)
            cases wt with
            | true =>
              cases b with
              | true => exact exec (note true rfl) (by simp [Region.wanted, hg, hy]) hr
              | false => exact skip (note false rfl) (by simp [Region.wanted, hg, hy]) hr
            | false =>
              cases b with
              | true => exact skip (note true rfl) (by simp [Region.wanted, hg, hy]) hr
              | false => exact exec (note false rfl) (by simp [Region.wanted, hg, hy]) hr
          · rename_i hb
            rw [hb] at hd
            have hdv : a.tmps.getD d undef = undef := hd
            have hy := yielded_undef hgo hdv
            exact skip h (by simp [Region.wanted, hg, hy]) hr
          · cases hr
        · cases hr
/-- What a guarded operation comes to. -/
theorem stepW_out {ops : Array Oper} {ok : St → Bool} {o : Oper} {next : St → Tree} (h : Sim cx s a w ρ) (hr : interp out J (stepW P C ops ok o s next) = some r) :
    (∃ s2, Sim cx s2 a w ρ ∧ ok s2 = true ∧ Region.wanted o (yielded ops a.tmps) = true ∧ interp out J (evOp P C s2 o fun v s' => next (s'.put o.dst v)) = some r) ∨
    (∃ s2, Sim cx s2 a w ρ ∧ Region.wanted o (yielded ops a.tmps) = false ∧ interp out J (next (s2.put o.dst .undef)) = some r) := by
  unfold stepW at hr
  split at hr
  · rename_i hg
    split at hr
    · rename_i hok
      exact .inl ⟨s, h, hok, by simp [Region.wanted, hg], hr⟩
    · cases hr
  · rename_i j wt hg
    split at hr
    · rename_i d hgo
      have hd := h.fr d
      split at hr
      · rename_i b hb
        rw [hb] at hd
        have hdv := hd.bool
        have hy := yielded_bool hgo hdv
        have note : ∀ b', b = b' → Sim cx (s.put (some d) (.bool b')) a w ρ := fun b' e => h.note (by rw [hdv, e]; exact vr_bool _)
        cases wt with
        | true =>
          cases b with
          | true =>
            simp only [interp] at hr
            split at hr
            · rename_i hok
              exact .inl ⟨_, note true rfl, hok, by simp [Region.wanted, hg, hy], hr⟩
            · cases hr
          | false => exact .inr ⟨_, note false rfl, by simp [Region.wanted, hg, hy], hr⟩
        | false =>
          cases b with
          | true => exact .inr ⟨_, note true rfl, by simp [Region.wanted, hg, hy], hr⟩
          | false =>
            simp only [interp] at hr
            split at hr
            · rename_i hok
              exact .inl ⟨_, note false rfl, hok, by simp [Region.wanted, hg, hy], hr⟩
            · cases hr
      · rename_i hb
        rw [hb] at hd
        have hdv : a.tmps.getD d undef = undef := hd
        have hy := yielded_undef hgo hdv
        exact .inr ⟨s, h, by simp [Region.wanted, hg, hy], hr⟩
      · cases hr
    · cases hr
/-! ### regions whose order is drawn, with stores -/
/-- What an operation may change. -/
def GS (ops : Array Oper) (B : Nat → Prop) (j : Nat) (w w' : World) : Prop :=
  match ops[j]? with
  | some o => if isStore o.op = true then Agree B w w' else if grows o.op = true then Below w.heap.size w w' else w' = w
  | none => w' = w
def wpAnyG (P : Program) (ops : Array Oper) (Q : Exit → Act → World → Prop) (G : Nat → World → World → Prop) : Nat → Array Bool → Act → World → Prop
  | 0, listed, a, w => Region.ready .any ops listed = [] ∧ Q .normal a w
  | fuel + 1, listed, a, w => (Region.ready .any ops listed = [] → Q .normal a w) ∧
    ∀ i ∈ Region.ready .any ops listed, wpOp P ops Q i (fun a' w' => G i w w' ∧ wpAnyG P ops Q G fuel (listed.setIfInBounds i true) a' w') a w
theorem wpAny_of_G {ops : Array Oper} {Q : Exit → Act → World → Prop} {G : Nat → World → World → Prop} : ∀ (fuel : Nat) (listed : Array Bool) (a : Act) (w : World), wpAnyG P ops Q G fuel listed a w → wpAny P .any ops Q fuel listed a w
  | 0, _, _, _, h => h
  | fuel + 1, _, _, _, h => ⟨h.1, fun i hi => wpOp_mono (fun a' w' h' => wpAny_of_G fuel _ a' w' h'.2) (h.2 i hi)⟩
/-- An operation that may come up may be taken first, if nothing that may come ahead of it changes what it yields. -/
theorem wpAnyG_first {ops : Array Oper} {Q : Exit → Act → World → Prop} {G : Nat → World → World → Prop} {S : World → Prop} {i : Nat} {oi : Oper} {v : Value} (hi : ops[i]? = some oi) (hsel : ∀ (j : Nat) (o : Oper) cs b, ops[j]? = some o → o.op ≠ .select cs b)
    (hQ : ∀ c a w, Q (.panic c) (a.put oi.dst v) w → Q (.panic c) a w) (hG : ∀ w, G i w w) :
    ∀ (fuel : Nat) (listed : Array Bool) (a : Act) (w : World),
      (∀ j oj, ops[j]? = some oj → j ≠ i → listed.getD j true = false → (∀ e ∈ oj.after, Region.binds .any e = true → e.on ≠ i) → oi.apart ops oj = true) →
      (∀ j oj, ops[j]? = some oj → j ≠ i → (∀ e ∈ oj.after, Region.binds .any e = true → e.on ≠ i) → ∀ w1 w2, S w1 → G j w1 w2 → S w2) →
      i ∈ Region.ready .any ops listed → YieldsIf P ops S oi v a → S w →
      wpAnyG P ops Q G fuel (listed.setIfInBounds i true) (a.put oi.dst v) w → wpAnyG P ops Q G (fuel + 1) listed a w := by
  intro fuel
  induction fuel with
  | zero =>
    intro listed a w _ _ hr hy hS H
    refine ⟨fun h => (by rw [h] at hr; cases hr), fun j hj => ?_⟩
    by_cases hji : j = i
    · subst hji; exact hy.wpOp hi hS ⟨hG w, H⟩
    · have := ready_mono hj hji
      rw [H.1] at this
      cases this
  | succ fuel ih =>
    intro listed a w hfree hcl hr hy hS H
    refine ⟨fun h => (by rw [h] at hr; cases hr), fun j hj => ?_⟩
    by_cases hji : j = i
    · subst hji; exact hy.wpOp hi hS ⟨hG w, H⟩
    · have h1 := H.2 j (ready_mono hj hji)
      obtain ⟨hjun, oj, hoj, hall⟩ := mem_ready.1 hj
      have hnot : ∀ e ∈ oj.after, Region.binds .any e = true → e.on ≠ i := fun e he hb heq => by
        have h1 := hall e he hb
        have h0 := (mem_ready.1 hr).1
        rw [heq] at h1
        rcases Nat.lt_or_ge i listed.size with h' | h'
        · simp [h'] at h0 h1; rw [h0] at h1; cases h1
        · simp [Array.getElem?_eq_none h'] at h1
      have h2 := wpOp_putIf hoj (hfree j oj hoj hji hjun hnot) (fun cs b => hsel i oi cs b hi) (fun cs b => hsel j oj cs b hoj) hQ hy h1
      have hfree' : ∀ k ok, ops[k]? = some ok → k ≠ i → (listed.setIfInBounds j true).getD k true = false →
          (∀ e ∈ ok.after, Region.binds .any e = true → e.on ≠ i) → oi.apart ops ok = true := fun k ok hk hki hun hno => by
        refine hfree k ok hk hki ?_ hno
        by_cases hjk : j = k
        · subst hjk; exact hjun
        · rw [getD_set_ne true hjk] at hun; exact hun
      refine wpOp_mono (fun a' w' h3 => ⟨h3.2.1, ih (listed.setIfInBounds j true) a' w' hfree' hcl (ready_mono hr (Ne.symm hji)) h3.1 (hcl j oj hoj hji hnot w w' hS h3.2.1) ?_⟩) h2
      rw [Array.setIfInBounds_comm _ _ hji]
      exact h3.2.2
/-- The blocks that a region's stores may reach. -/
def Bof (BT : List Nat) (a : Act) (b : Nat) : Prop := ∃ t ∈ BT, hb (a.tmps.getD t undef) = some b
theorem ptr_block {own : Nat → Prop} {m : Mem} {d : Nat} {p : List PS} {x : Value} (h : VR w own ρ m (.ptr d p) x) : ∃ b off, ρ d = .pointer (some ⟨b, 0, none⟩) ∧ x = .pointer (some ⟨b, off, none⟩) ∧ ∃ v, getM m d = some (.box v) := by
  obtain ⟨b, off, v, h1, h2, _, e⟩ : FR w own ρ m (.ptr d p) [x] := h
  injection e with e
  exact ⟨b, off, h1, e, v, h2⟩
/-- A region whose order is drawn, with stores: reads first, stores one by one. -/
theorem draw_stores {W0 : World} (hC : TabAt P W0 cx C) (hos : C.os = []) {ops : Array Oper} {Q : Exit → Act → World → Prop} {BT : List Nat} {a0 : Act} (hsel : Region.noSelect ops = true) (hQ : ∀ c a w, ¬ Q (.panic c) a w) :
    ∀ (l : List Nat) (n : Nat) (L : Array Bool), sched ops n L = some l → (∀ j ∈ l, ∀ (o : Oper), ops[j]? = some o → ∀ t ∈ BT, o.dst ≠ some t) → ∀ {s : St} {a : Act} {w : World} {ρ : Nat → Value} {K : St → Tree}, Sim cx s a w ρ → (∀ t ∈ BT, a.tmps.getD t undef = a0.tmps.getD t undef) →
    interp out J (evOpsS P C ops BT l s K) = some r → (∀ s' a' w' ρ', Sim cx s' a' w' ρ' → interp out J (K s') = some r → Q .normal a' w') → wpAnyG P ops Q (GS ops (Bof BT a0)) l.length L a w
  | [], n, L, hsc, _, s, a, w, ρ, K, h, _, hr, hK => by
    rcases sched_out hsc with ⟨_, h1⟩ | ⟨_, _, _, _, h1, _⟩
    · exact ⟨h1, hK s a w ρ h hr⟩
    · cases h1
  | i :: l, n, L, hsc, hBT, s, a, w, ρ, K, h, hI, hr, hK => by
    rcases sched_out hsc with ⟨h1, _⟩ | ⟨i', o, l', n', h1, ho, hsc', hkind⟩
    · cases h1
    · cases h1
      have keep : ∀ x, ∀ t ∈ BT, (a.put o.dst x).tmps.getD t undef = a0.tmps.getD t undef := by
        intro x t ht
        rw [← hI t ht]
        have hne := hBT i (by simp) o ho t ht
        cases hd : o.dst with
        | none => rfl
        | some d =>
          show (a.tmps.setIfInBounds d x).getD t undef = _
          simp only [Array.getD_eq_getD_getElem?, Array.getElem?_setIfInBounds]
          rw [if_neg (fun e => hne (by rw [hd, e]))]
      have ih := fun {s : St} {a : Act} {w : World} {ρ : Nat → Value} (h : Sim cx s a w ρ) (hI : ∀ t ∈ BT, a.tmps.getD t undef = a0.tmps.getD t undef) (hr : interp out J (evOpsS P C ops BT l s K) = some r) => draw_stores hC hos hsel hQ l n' _ hsc' (fun j hj => hBT j (List.mem_cons_of_mem _ hj)) h hI hr hK
      simp only [evOpsS, ho] at hr
      · have hGi : isStore o.op = false → grows o.op = false → ∀ w, GS ops (Bof BT a0) i w w := fun hns hnc w => by unfold GS; rw [ho]; simp [hns, hnc]
        have hnots : reads o.op = true → isStore o.op = false := by intro h; cases hop : o.op <;> rw [hop] at h <;> simp [reads, isStore] at h ⊢
        have hnotc : reads o.op = true → grows o.op = false := by
          intro h
          cases hop : o.op <;> rw [hop] at h <;> simp [reads, grows, isCall, isAlloc] at h ⊢
          rename_i c
          cases hcc : c.callee <;> rw [hcc] at h <;> simp at h ⊢
        -- taken first
        have take : ∀ (B : Nat → Prop) (v : Value), reads o.op = true → Region.free .any ops L i = true → (Region.ready .any ops L).contains i = true → (early ops i = true ∨ ∀ b, Bof BT a0 b → B b) → YieldsIf P ops (fun w' => Agree B w w') o v a →
            wpAnyG P ops Q (GS ops (Bof BT a0)) l.length (L.setIfInBounds i true) (a.put o.dst v) w → wpAnyG P ops Q (GS ops (Bof BT a0)) (l.length + 1) L a w := by
          intro B v hrd hfree hready hcase hy hn
          refine wpAnyG_first (S := fun w' => Agree B w w') ho (Region.noSelect_spec hsel) (fun c a' w' hq => (hQ c _ w' hq).elim) (hGi (hnots hrd) (hnotc hrd)) l.length L a w (Region.free_spec ho hfree) ?_ (by simpa using hready) hy (Agree.refl _ w) hn
          intro j oj hj _ hno w1 w2 h1 hg
          unfold GS at hg
          rw [hj] at hg
          simp only at hg
          split at hg
          · rename_i hst
            rcases hcase with he | hsub
            · exfalso
              unfold early at he
              have := Array.all_eq_true_iff_forall_mem.1 he oj (Array.mem_of_getElem? hj)
              rw [hst] at this
              simp only [Bool.not_true, Bool.false_or] at this
              obtain ⟨e, he2, hb2⟩ := Array.any_eq_true'.1 this
              simp only [Bool.and_eq_true, beq_iff_eq] at hb2
              exact hno e he2 hb2.1 hb2.2
            · exact h1.trans ⟨hg.size, fun k hk hn => hg.block k hk (fun x => hn (hsub k x))⟩
          · split at hg
            · exact h1.trans (Agree.below hg)
            · rw [hg]; exact h1
        have single : ∀ (K' : Act → World → Prop), Region.ready .any ops L = [i] → (wpOp P ops Q i (fun a' w' => GS ops (Bof BT a0) i w w' ∧ wpAnyG P ops Q (GS ops (Bof BT a0)) l.length (L.setIfInBounds i true) a' w') a w) → wpAnyG P ops Q (GS ops (Bof BT a0)) (l.length + 1) L a w := by
          intro _ hready hop
          refine ⟨fun h0 => (by rw [hready] at h0; cases h0), fun j hj => ?_⟩
          rw [hready, List.mem_singleton] at hj
          subst hj
          exact hop
        have exec : ∀ {s2 : St}, Sim cx s2 a w ρ → okS s2 BT (early ops i) o = true → Region.wanted o (yielded ops a.tmps) = true → interp out J (evOp P C s2 o fun v s' => evOpsS P C ops BT l (s'.put o.dst v) K) = some r →
            wpAnyG P ops Q (GS ops (Bof BT a0)) (l.length + 1) L a w := by
          intro s2 h2 hok2 hw hr2
          rcases hkind with ⟨hrd, hfree, hready⟩ | ⟨heff, hready⟩
          · by_cases her : early ops i = true
            · obtain ⟨x, hrun, hn⟩ := evOp_reads (B := fun _ => False) (fun _ _ _ _ _ h => h) (fun _ _ h => h) (N := fun a' w' => (∀ t ∈ BT, a'.tmps.getD t undef = a0.tmps.getD t undef) → wpAnyG P ops Q (GS ops (Bof BT a0)) l.length (L.setIfInBounds i true) a' w') hrd h2 hr2 (by
                intro v s' w' ρ' x hr3 h3 hv hI'
                exact ih (h3.put o.dst hv) hI' hr3)
              exact take (fun _ => False) x hrd hfree hready (.inl her) (.inl ⟨hw, hrun⟩) (hn (keep x))
            · have her' : early ops i = false := by simpa using her
              rw [her'] at hok2
              obtain ⟨x, hrun, hn⟩ := evOp_reads (B := Bof BT a0) (by
                  intro T q hop ad had
                  unfold okS at hok2
                  rw [hop] at hok2
                  simp only [Bool.false_or] at hok2
                  unfold loadFree at hok2
                  split at hok2
                  · rename_i d p hev
                    have hvq := h2.ev q
                    rw [hev] at hvq
                    obtain ⟨b, off, h1, h3, v, hm⟩ := ptr_block hvq
                    rw [h3] at had
                    cases had
                    rintro ⟨t, ht, hbt⟩
                    have hall := List.all_eq_true.1 hok2 t ht
                    split at hall
                    · rename_i d' p' hfr
                      have hvt := h2.fr t
                      rw [hfr] at hvt
                      obtain ⟨b', off', h1', h3', v', hm'⟩ := ptr_block hvt
                      rw [← hI t ht, h3'] at hbt
                      have hbb : b' = b := by simpa [hb] using hbt
                      subst hbb
                      exact (of_decide_eq_true hall) (h2.ds d' d _ _ b' hm' hm (by rw [h1']; rfl) (by rw [h1]; rfl))
                    · cases hall
                  · cases hok2)
                (by
                  intro hhp
                  exfalso
                  unfold okS at hok2
                  cases hop : o.op <;> rw [hop] at hok2 hhp <;> simp [heapy] at hhp hok2
                  rename_i c
                  rw [hhp] at hok2
                  simp at hok2)
                (N := fun a' w' => (∀ t ∈ BT, a'.tmps.getD t undef = a0.tmps.getD t undef) → wpAnyG P ops Q (GS ops (Bof BT a0)) l.length (L.setIfInBounds i true) a' w') hrd h2 hr2 (by
                  intro v s' w' ρ' x hr3 h3 hv hI'
                  exact ih (h3.put o.dst hv) hI' hr3)
              exact take (Bof BT a0) x hrd hfree hready (.inr fun _ h => h) (.inl ⟨hw, hrun⟩) (hn (keep x))
          · refine single (fun _ _ => True) hready ?_
            by_cases hic : isCall o.op = true
            · obtain ⟨c, hc1, xo, hc2⟩ : ∃ c, o.op = .call c ∧ ∃ xo, c.callee = .value xo := by
                cases hop : o.op <;> rw [hop] at hic <;> simp only [isCall] at hic <;> try (cases hic; done)
                rename_i c
                cases hcc : c.callee with
                | value f => exact ⟨c, rfl, f, hcc⟩
                | invoke _ _ => rw [hcc] at hic; cases hic
                | builtin _ => rw [hcc] at hic; cases hic
              unfold wpOp
              simp only [ho, hw, if_true]
              refine .inl (call_sound hC (.inl hos) hc1 hc2 h2 hr2 ?_)
              intro v s' w' ρ' x hr3 h3 hv hb'
              refine ⟨?_, ih (h3.put o.dst hv) (keep x) hr3⟩
              unfold GS
              rw [ho]
              simp only [grows, hic, Bool.true_or, if_true]
              rw [if_neg (by rw [hc1]; simp [isStore])]
              exact hb'
            have hnc : isCall o.op = false := by simpa using hic
            rw [hnc, Bool.false_or] at heff
            obtain ⟨T, xa, xx, hop⟩ : ∃ T xa xx, o.op = .store T xa xx := by
              cases hop : o.op <;> rw [hop] at heff <;> simp [isStore] at heff
              exact ⟨_, _, _, rfl⟩
            unfold wpOp
            simp only [ho, hw, if_true]
            refine .inl (store_op hop h2 hr2 ?_)
            intro v s' w' ρ' x hr3 h3 hv hag
            refine ⟨?_, ih (h3.put o.dst hv) (keep x) hr3⟩
            unfold GS
            rw [ho]
            simp only [heff, if_true]
            unfold okS at hok2
            rw [hop] at hok2
            simp only at hok2
            unfold storeIn at hok2
            split at hok2
            · rename_i d p hev
              have hvq := h2.ev xa
              rw [hev] at hvq
              obtain ⟨b, off, h1, h3', _⟩ := ptr_block hvq
              obtain ⟨t, ht, hcond⟩ := List.any_eq_true.1 hok2
              split at hcond
              · rename_i d' p' hfr
                have hd := of_decide_eq_true hcond
                subst hd
                have hvt := h2.fr t
                rw [hfr] at hvt
                obtain ⟨b', off', h1', h4', _⟩ := ptr_block hvt
                rw [h1] at h1'
                cases h1'
                exact hag _ _ h3' ⟨t, ht, by rw [← hI t ht, h4']; rfl⟩
              · cases hcond
            · cases hok2
        rcases stepW_out h hr with ⟨s2, h2, hok2, hw, hr2⟩ | ⟨s2, h2, hw, hr2⟩
        · exact exec h2 hok2 hw hr2
        · have hn := ih (h2.put o.dst (v := .undef) (rfl : V1 _ _ _ _ .undef undef)) (keep undef) hr2
          rcases hkind with ⟨hrd, hfree, hready⟩ | ⟨heff, hready⟩
          · exact take (Bof BT a0) undef hrd hfree hready (.inr fun _ h => h) (.inr ⟨hw, rfl⟩) hn
          · refine single (fun _ _ => True) hready ?_
            unfold wpOp
            simp only [ho, hw]
            refine ⟨?_, hn⟩
            unfold GS
            rw [ho]
            simp only
            split
            · exact Agree.refl _ w
            · split
              · exact Below.refl _ w
              · trivial
/-! ### regions whose order is drawn: reads first, then one by one whatever it is -/
theorem wpAnyG_firstW {ops : Array Oper} {Q : Exit → Act → World → Prop} {G : Nat → World → World → Prop} {S : World → Prop} {i : Nat} {oi : Oper} {v : Value} (W : List Nat) (hi : ops[i]? = some oi) (hsel : ∀ (j : Nat) (o : Oper) cs b, ops[j]? = some o → o.op ≠ .select cs b)
    (hQ : ∀ c a w, Q (.panic c) (a.put oi.dst v) w → Q (.panic c) a w) (hG : ∀ w, G i w w)
    (hW : ∀ j ∈ W, ∀ oj, ops[j]? = some oj → ∃ e ∈ oj.after, Region.binds .any e = true ∧ (e.on = i ∨ e.on ∈ W)) :
    ∀ (fuel : Nat) (listed : Array Bool) (a : Act) (w : World),
      (∀ j oj, ops[j]? = some oj → j ≠ i → j ∉ W → listed.getD j true = false → ∀ w1 w2, S w1 → G j w1 w2 → S w2) →
      (∀ j oj, ops[j]? = some oj → j ≠ i → listed.getD j true = false → (∀ e ∈ oj.after, Region.binds .any e = true → e.on ≠ i) → oi.apart ops oj = true) →
      (∀ j ∈ W, listed.getD j false = false) →
      i ∈ Region.ready .any ops listed → YieldsIf P ops S oi v a → S w →
      wpAnyG P ops Q G fuel (listed.setIfInBounds i true) (a.put oi.dst v) w → wpAnyG P ops Q G (fuel + 1) listed a w := by
  intro fuel
  induction fuel with
  | zero =>
    intro listed a w _ _ _ hr hy hS H
    refine ⟨fun h => (by rw [h] at hr; cases hr), fun j hj => ?_⟩
    by_cases hji : j = i
    · subst hji; exact hy.wpOp hi hS ⟨hG w, H⟩
    · have := ready_mono hj hji
      rw [H.1] at this
      cases this
  | succ fuel ih =>
    intro listed a w hcl hfree hun0 hr hy hS H
    refine ⟨fun h => (by rw [h] at hr; cases hr), fun j hj => ?_⟩
    by_cases hji : j = i
    · subst hji; exact hy.wpOp hi hS ⟨hG w, H⟩
    · have h1 := H.2 j (ready_mono hj hji)
      obtain ⟨hjun, oj, hoj, hall⟩ := mem_ready.1 hj
      have hi0 : listed.getD i false = true → False := fun h1 => by
        have h0 := (mem_ready.1 hr).1
        rcases Nat.lt_or_ge i listed.size with h' | h'
        · simp [h'] at h0 h1; rw [h0] at h1; cases h1
        · simp [Array.getElem?_eq_none h'] at h1
      have hnot : ∀ e ∈ oj.after, Region.binds .any e = true → e.on ≠ i := fun e he hb heq => by
        have h1 := hall e he hb
        rw [heq] at h1
        exact hi0 h1
      have hjW : j ∉ W := fun hm => by
        obtain ⟨e, he, hb, h2⟩ := hW j hm oj hoj
        rcases h2 with h2 | h2
        · exact hnot e he hb h2
        · have h3 := hall e he hb
          rw [hun0 _ h2] at h3
          cases h3
      have h2 := wpOp_putIf hoj (hfree j oj hoj hji hjun hnot) (fun cs b => hsel i oi cs b hi) (fun cs b => hsel j oj cs b hoj) hQ hy h1
      have hfree' : ∀ k ok, ops[k]? = some ok → k ≠ i → (listed.setIfInBounds j true).getD k true = false →
          (∀ e ∈ ok.after, Region.binds .any e = true → e.on ≠ i) → oi.apart ops ok = true := fun k ok hk hki hun hno => by
        refine hfree k ok hk hki ?_ hno
        by_cases hjk : j = k
        · subst hjk; exact hjun
        · rw [getD_set_ne true hjk] at hun; exact hun
      have hcl' : ∀ k ok, ops[k]? = some ok → k ≠ i → k ∉ W → (listed.setIfInBounds j true).getD k true = false → ∀ w1 w2, S w1 → G k w1 w2 → S w2 := fun k ok hk hki hkW hun => by
        refine hcl k ok hk hki hkW ?_
        by_cases hjk : j = k
        · subst hjk; exact hjun
        · rw [getD_set_ne true hjk] at hun; exact hun
      have hun' : ∀ k ∈ W, (listed.setIfInBounds j true).getD k false = false := fun k hk => by
        have hne : j ≠ k := fun e => hjW (e ▸ hk)
        have := getD_set_ne (listed := listed) false hne
        rw [this]
        exact hun0 k hk
      refine wpOp_mono (fun a' w' h3 => ⟨h3.2.1, ih (listed.setIfInBounds j true) a' w' hcl' hfree' hun' (ready_mono hr (Ne.symm hji)) h3.1 (hcl j oj hoj hji hjW hjun w w' hS h3.2.1) ?_⟩) h2
      rw [Array.setIfInBounds_comm _ _ hji]
      exact h3.2.2
def GW (ops : Array Oper) (j : Nat) (w w' : World) : Prop :=
  match ops[j]? with
  | some o => if reads o.op = true then w' = w else if isBS o.op = true then Below w.heap.size w w' else True
  | none => True
theorem goodW_out {ops : Array Oper} {L : Array Bool} {i : Nat} {W : List Nat} (h : goodW ops L i W = true) :
    (∀ j ∈ W, ∀ oj, ops[j]? = some oj → ∃ e ∈ oj.after, Region.binds .any e = true ∧ (e.on = i ∨ e.on ∈ W)) ∧ (∀ j ∈ W, L.getD j false = false) ∧
    (∀ j oj, ops[j]? = some oj → j ∉ W → L.getD j true = false → reads oj.op = true ∨ isBS oj.op = true) := by
  unfold goodW at h
  simp only [Bool.and_eq_true] at h
  obtain ⟨h1, h2⟩ := h
  refine ⟨fun j hj oj ho => ?_, fun j hj => ?_, fun j oj ho hj hl => ?_⟩
  · have := (List.all_eq_true.1 h1 j hj)
    simp only [Bool.and_eq_true] at this
    have h3 := this.2
    rw [ho] at h3
    obtain ⟨e, he, hb⟩ := Array.any_eq_true'.1 h3
    simp only [Bool.and_eq_true, Bool.or_eq_true, beq_iff_eq, List.contains_iff_mem] at hb
    exact ⟨e, he, hb.1, hb.2⟩
  · have := (List.all_eq_true.1 h1 j hj)
    simp only [Bool.and_eq_true, Bool.not_eq_true'] at this
    have h3 := this.1.1
    rcases Nat.lt_or_ge j L.size with h' | h'
    · simp [h'] at h3 ⊢; exact h3
    · simp [Array.getElem?_eq_none h'] at h3
  · have := List.all_eq_true.1 h2 j (List.mem_range.2 (Array.getElem?_eq_some_iff.1 ho).1)
    rw [ho, hl] at this
    simp only [Bool.or_eq_true, List.contains_iff_mem, Bool.or_false] at this
    rcases this with h3 | h3
    · exact (hj h3).elim
    · exact h3
theorem schedW_out {ops : Array Oper} : ∀ {n : Nat} {L : Array Bool} {l : List Nat}, schedW ops n L = some l →
    (l = [] ∧ Region.ready .any ops L = []) ∨ ∃ i o l' n', l = i :: l' ∧ ops[i]? = some o ∧ schedW ops n' (L.setIfInBounds i true) = some l' ∧
      ((reads o.op = true ∧ Region.free .any ops L i = true ∧ (goodW ops L i (behind ops i) = true ∨ isMove o.op = true) ∧ i ∈ Region.ready .any ops L) ∨ (reads o.op = false ∧ Region.ready .any ops L = [i]))
  | 0, L, l, h => by
    simp only [schedW] at h
    split at h
    · rename_i hr; cases h; exact .inl ⟨rfl, hr⟩
    · cases h
  | n + 1, L, l, h => by
    simp only [schedW] at h
    split at h
    · rename_i hr; cases h; exact .inl ⟨rfl, hr⟩
    · rename_i r rs hr
      split at h
      · rename_i i hf
        obtain ⟨l', h1, rfl⟩ := Option.map_eq_some_iff.1 h
        have hp := List.find?_some hf
        have hm := List.mem_of_find?_eq_some hf
        simp only [Bool.and_eq_true] at hp
        obtain ⟨⟨hp1, hp2⟩, hp3⟩ := hp
        split at hp1
        · rename_i o ho
          rw [ho] at hp3
          simp only [Bool.or_eq_true] at hp3
          exact .inr ⟨i, o, l', n, rfl, ho, h1, .inl ⟨hp1, hp2, hp3, by rw [hr]; exact hm⟩⟩
        · cases hp1
      · split at h
        · obtain ⟨l', h1, rfl⟩ := Option.map_eq_some_iff.1 h
          have hh : (match ops[r]? with | some o => !reads o.op | none => false) = true := by assumption
          cases ho : ops[r]? with
          | none => rw [ho] at hh; cases hh
          | some o =>
            rw [ho] at hh
            exact .inr ⟨r, o, l', n, rfl, ho, h1, .inr ⟨by simpa using hh, hr⟩⟩
        · cases h
theorem draw_wild {W0 : World} (hC : TabAt P W0 cx C) {ops : Array Oper} {Q : Exit → Act → World → Prop} (hsel : Region.noSelect ops = true) (hQ : ∀ c a w, ¬ Q (.panic c) a w) : ∀ (l : List Nat) (n : Nat) (L : Array Bool), schedW ops n L = some l → ∀ {s : St} {a : Act} {w : World} {ρ : Nat → Value} {K : St → Tree}, Sim cx s a w ρ →
    interp out J (evOps P C ops (l.filterMap fun i => ops[i]?) s K) = some r → (∀ s' a' w' ρ', Sim cx s' a' w' ρ' → interp out J (K s') = some r → Q .normal a' w') → wpAnyG P ops Q (GW ops) l.length L a w
  | [], n, L, hsc, s, a, w, ρ, K, h, hr, hK => by
    rcases schedW_out hsc with ⟨_, h1⟩ | ⟨_, _, _, _, h1, _⟩
    · exact ⟨h1, hK s a w ρ h hr⟩
    · cases h1
  | i :: l, n, L, hsc, s, a, w, ρ, K, h, hr, hK => by
    rcases schedW_out hsc with ⟨h1, _⟩ | ⟨i', o, l', n', h1, ho, hsc', hkind⟩
    · cases h1
    · cases h1
      have ih := fun {s : St} {a : Act} {w : World} {ρ : Nat → Value} (h : Sim cx s a w ρ) (hr : interp out J (evOps P C ops (l.filterMap fun i => ops[i]?) s K) = some r) => draw_wild hC hsel hQ l n' _ hsc' h hr hK
      have e1 : ((i :: l).filterMap fun i => ops[i]?) = o :: (l.filterMap fun i => ops[i]?) := by simp [ho]
      rw [e1] at hr
      have take : ∀ (v : Value), reads o.op = true → Region.free .any ops L i = true → goodW ops L i (behind ops i) = true → i ∈ Region.ready .any ops L → YieldsIf P ops (fun w' => Below w.heap.size w w') o v a →
          wpAnyG P ops Q (GW ops) l.length (L.setIfInBounds i true) (a.put o.dst v) w → wpAnyG P ops Q (GW ops) (l.length + 1) L a w := by
        intro v hrd hfree hgood hready hy hn
        obtain ⟨g1, g2, g3⟩ := goodW_out hgood
        refine wpAnyG_firstW (S := fun w' => Below w.heap.size w w') (behind ops i) ho (Region.noSelect_spec hsel) (fun c a' w' hq => (hQ c _ w' hq).elim) (fun w => by unfold GW; rw [ho]; simp [hrd]) g1 l.length L a w ?_ (Region.free_spec ho hfree) g2 hready hy (Below.refl _ w) hn
        intro j oj hj _ hjW hjl w1 w2 h1 hg
        unfold GW at hg
        rw [hj] at hg
        simp only at hg
        rcases g3 j oj hj hjW hjl with h3 | h3
        · rw [if_pos h3] at hg; rw [hg]; exact h1
        · split at hg
          · rw [hg]; exact h1
          · first
              | exact h1.trans (hg.mono h1.size)
              | (rw [if_pos h3] at hg; exact h1.trans (hg.mono h1.size))
      have still : ∀ (v : Value), isMove o.op = true → reads o.op = true → Region.free .any ops L i = true → i ∈ Region.ready .any ops L → YieldsIf P ops (fun _ => True) o v a →
          wpAnyG P ops Q (GW ops) l.length (L.setIfInBounds i true) (a.put o.dst v) w → wpAnyG P ops Q (GW ops) (l.length + 1) L a w := by
        intro v _ hrd hfree hready hy hn
        exact wpAnyG_firstW (S := fun _ => True) [] ho (Region.noSelect_spec hsel) (fun c a' w' hq => (hQ c _ w' hq).elim) (fun w => by unfold GW; rw [ho]; simp [hrd]) (fun _ h => by cases h) l.length L a w (fun _ _ _ _ _ _ _ _ _ _ => trivial) (Region.free_spec ho hfree) (fun _ h => by cases h) hready hy trivial hn
      have single : Region.ready .any ops L = [i] → (wpOp P ops Q i (fun a' w' => GW ops i w w' ∧ wpAnyG P ops Q (GW ops) l.length (L.setIfInBounds i true) a' w') a w) → wpAnyG P ops Q (GW ops) (l.length + 1) L a w := by
        intro hready hop
        refine ⟨fun h0 => (by rw [hready] at h0; cases h0), fun j hj => ?_⟩
        rw [hready, List.mem_singleton] at hj
        subst hj
        exact hop
      have exec : ∀ {s2 : St}, Sim cx s2 a w ρ → Region.wanted o (yielded ops a.tmps) = true → interp out J (evOp P C s2 o fun v s' => evOps P C ops (l.filterMap fun i => ops[i]?) (s'.put o.dst v) K) = some r →
          wpAnyG P ops Q (GW ops) (l.length + 1) L a w := by
        intro s2 h2 hw hr2
        rcases hkind with ⟨hrd, hfree, hgood, hready⟩ | ⟨hnr, hready⟩
        · obtain ⟨x, hrun, hn⟩ := evOp_reads (B := fun _ => False) (fun _ _ _ _ _ h => h) (fun _ _ h => h) (N := fun a' w' => wpAnyG P ops Q (GW ops) l.length (L.setIfInBounds i true) a' w') hrd h2 hr2 (by
            intro v s' w' ρ' x hr3 h3 hv
            exact ih (h3.put o.dst hv) hr3)
          rcases hgood with hgood | hmv
          · exact take x hrd hfree hgood hready (.inl ⟨hw, fun w' e => hrun w' (.below e)⟩) hn
          · refine still x hmv hrd hfree hready (.inl ⟨hw, fun w' _ => ?_⟩) hn
            have h1 := hrun w (Agree.refl _ w)
            obtain ⟨y, hop⟩ : ∃ y, o.op = .move y := by
              cases hop : o.op <;> rw [hop] at hmv <;> simp [isMove] at hmv
              exact ⟨_, rfl⟩
            have e : ∀ w', (execOp a.eval o).run P w' = .ok (.value (a.eval y)) w' := by
              intro w'
              unfold execOp
              rw [hop]
              simp
            rw [e w] at h1
            injection h1 with h1
            injection h1 with h1
            rw [e w', h1]
        · refine single hready ?_
          unfold wpOp
          simp only [ho, hw, if_true]
          refine .inl ?_
          have hN : Owed cx a o.dst out J r (fun v s' => evOps P C ops (l.filterMap fun i => ops[i]?) (s'.put o.dst v) K) (fun a' w' => wpAnyG P ops Q (GW ops) l.length (L.setIfInBounds i true) a' w') := by
            intro v s' w' ρ' x hr3 h3 hv
            exact ih (h3.put o.dst hv) hr3
          by_cases hbs : isBS o.op = true
          · obtain ⟨T, m, ps, hop⟩ : ∃ T m ps, o.op = .buildSlice T m ps := by
              cases hop : o.op <;> rw [hop] at hbs <;> simp [isBS] at hbs
              exact ⟨_, _, _, rfl⟩
            refine Oper.wp_mono (fun a' w' hh => ⟨?_, hh.2⟩) (buildSlice_below hop h2 hr2 hN)
            unfold GW
            rw [ho]
            simp only [hnr, hbs, Bool.false_eq_true, if_false, if_true]
            exact hh.1
          · refine Oper.wp_mono (fun a' w' hh => ⟨?_, hh⟩) (evOp_sound hC h2 hr2 hN)
            unfold GW
            rw [ho]
            simp only [hnr, hbs, Bool.false_eq_true, if_false]
      have skip : ∀ {s2 : St}, Sim cx s2 a w ρ → Region.wanted o (yielded ops a.tmps) = false → interp out J (evOps P C ops (l.filterMap fun i => ops[i]?) (s2.put o.dst .undef) K) = some r →
          wpAnyG P ops Q (GW ops) (l.length + 1) L a w := by
        intro s2 h2 hw hr2
        have hn := ih (h2.put o.dst (v := .undef) (rfl : V1 _ _ _ _ .undef undef)) hr2
        rcases hkind with ⟨hrd, hfree, hgood, hready⟩ | ⟨hnr, hready⟩
        · rcases hgood with hgood | hmv
          · exact take undef hrd hfree hgood hready (.inr ⟨hw, rfl⟩) hn
          · exact still undef hmv hrd hfree hready (.inr ⟨hw, rfl⟩) hn
        · refine single hready ?_
          unfold wpOp
          simp only [ho, hw]
          refine ⟨?_, hn⟩
          unfold GW
          rw [ho]
          simp only [hnr, Bool.false_eq_true, if_false]
          split
          · exact Below.refl _ w
          · trivial
      unfold evOps at hr
      split at hr
      · rename_i hg
        exact exec h (by simp [Region.wanted, hg]) hr
      · rename_i j wt hg
        split at hr
        · rename_i d hgo
          have hd := h.fr d
          split at hr
          · rename_i b hb
            rw [hb] at hd
            have hdv := hd.bool
            have hy := yielded_bool hgo hdv
            have note : ∀ b', b = b' → Sim cx (s.put (some d) (.bool b')) a w ρ := fun b' e => h.note (by rw [hdv, e]; exact vr_bool _)
            cases wt with
            | true =>
              cases b with
              | true => exact exec (note true rfl) (by simp [Region.wanted, hg, hy]) hr
              | false => exact skip (note false rfl) (by simp [Region.wanted, hg, hy]) hr
            | false =>
              cases b with
              | true => exact skip (note true rfl) (by simp [Region.wanted, hg, hy]) hr
              | false => exact exec (note false rfl) (by simp [Region.wanted, hg, hy]) hr
          · rename_i hb
            rw [hb] at hd
            have hdv : a.tmps.getD d undef = undef := hd
            have hy := yielded_undef hgo hdv
            exact skip h (by simp [Region.wanted, hg, hy]) hr
          · cases hr
        · cases hr
/-- What an operation may change, where some make blocks alone. -/
def GB (C : Tab) (ops : Array Oper) (j : Nat) (w w' : World) : Prop :=
  match ops[j]? with
  | some o => if reads o.op = true then w' = w else if quiet C o.op = true then Below w.heap.size w w' else True
  | none => True
theorem goodB_out {ops : Array Oper} {L : Array Bool} {i : Nat} {W : List Nat} (h : goodB C ops L i W = true) :
    (∀ j ∈ W, ∀ oj, ops[j]? = some oj → ∃ e ∈ oj.after, Region.binds .any e = true ∧ (e.on = i ∨ e.on ∈ W)) ∧ (∀ j ∈ W, L.getD j false = false) ∧
    (∀ j oj, ops[j]? = some oj → j ∉ W → L.getD j true = false → reads oj.op = true ∨ quiet C oj.op = true) := by
  unfold goodB at h
  simp only [Bool.and_eq_true] at h
  obtain ⟨h1, h2⟩ := h
  refine ⟨fun j hj oj ho => ?_, fun j hj => ?_, fun j oj ho hj hl => ?_⟩
  · have := (List.all_eq_true.1 h1 j hj)
    simp only [Bool.and_eq_true] at this
    have h3 := this.2
    rw [ho] at h3
    obtain ⟨e, he, hb⟩ := Array.any_eq_true'.1 h3
    simp only [Bool.and_eq_true, Bool.or_eq_true, beq_iff_eq, List.contains_iff_mem] at hb
    exact ⟨e, he, hb.1, hb.2⟩
  · have := (List.all_eq_true.1 h1 j hj)
    simp only [Bool.and_eq_true, Bool.not_eq_true'] at this
    have h3 := this.1.1
    rcases Nat.lt_or_ge j L.size with h' | h'
    · simp [h'] at h3 ⊢; exact h3
    · simp [Array.getElem?_eq_none h'] at h3
  · have := List.all_eq_true.1 h2 j (List.mem_range.2 (Array.getElem?_eq_some_iff.1 ho).1)
    rw [ho, hl] at this
    simp only [Bool.or_eq_true, List.contains_iff_mem, Bool.or_false] at this
    rcases this with h3 | h3
    · exact (hj h3).elim
    · exact h3
theorem evCallO_none {f : FuncId} {s sF : St} {xs : List Operand} {K : V → St → Tree} {alt : Tree} : ∀ {os : List OE}, (∀ e ∈ os, e.id ≠ f) → evCallO s sF f xs K alt os = alt
  | [], _ => rfl
  | e :: os, h => by
    simp only [evCallO]
    rw [decide_eq_false (fun hh => h e (by simp) hh.1)]
    exact evCallO_none fun e' he => h e' (by simp [he])
/-- A call of a function that is handed data alone turns no block. -/
theorem dataCall_below {W0 : World} (hC : TabAt P W0 cx C) {o : Oper} {Q : Exit → Act → World → Prop} {K : V → St → Tree} {N : Act → World → Prop} (hd : dataCall C o.op = true) (h : Sim cx s a w ρ) (hr : interp out J (evOp P C s o K) = some r) (hK : Owed cx a o.dst out J r K N) :
    o.wp P a w (fun a' w' => Below w.heap.size w w' ∧ N a' w') Q := by
  obtain ⟨c, f, hop, hcal, hids⟩ : ∃ c f, o.op = .call c ∧ c.callee = .value (.func f) ∧ ∀ e ∈ C.os, e.id ≠ f := by
    cases hop : o.op <;> rw [hop] at hd <;> simp only [dataCall] at hd <;> try (cases hd; done)
    rename_i c
    cases hcc : c.callee with
    | value x =>
      rw [hcc] at hd
      cases x <;> simp only at hd <;> try (cases hd; done)
      rename_i f
      refine ⟨c, f, rfl, hcc, fun e he => ?_⟩
      have := List.all_eq_true.1 hd e he
      simpa using this
    | invoke _ _ => rw [hcc] at hd; cases hd
    | builtin _ => rw [hcc] at hd; cases hd
  have hev : evOp P C s o K = evOp P C.pureT s o K := by
    unfold evOp
    rw [hop]
    simp only [hcal, ev]
    unfold evCall
    show (match findE s.mem (c.args.toList.map (ev s)) C.es f with | some ⟨e, a⟩ => _ | none => _) = (match findE s.mem (c.args.toList.map (ev s)) C.es f with | some ⟨e, a⟩ => _ | none => _)
    split
    · rfl
    · rw [evCallO_none hids]
      show _ = (match s.freezeAll (keysOf s c.args.toList) with | some s' => Tree.fail | none => Tree.fail)
      cases s.freezeAll (keysOf s c.args.toList) with
      | some s' => simp only; rw [evCallO_none hids]
      | none => rfl
  rw [hev] at hr
  exact call_sound (C := C.pureT) ⟨⟨hC.1.1, fun _ h => by cases h⟩, hC.2⟩ (.inl rfl) hop hcal h hr fun v s' w' ρ' x h1 h2 h3 hb => ⟨hb, hK v s' w' ρ' x h1 h2 h3⟩
theorem hoistW_out {ops : Array Oper} {L : Array Bool} {i : Nat} (h : hoistW C ops L i = true) : ∃ o, ops[i]? = some o ∧ reads o.op = true ∧ Region.free .any ops L i = true ∧ (goodB C ops L i (behind ops i) = true ∨ isMove o.op = true) := by
  unfold hoistW at h
  simp only [Bool.and_eq_true, Bool.or_eq_true] at h
  obtain ⟨⟨h1, h2⟩, h3⟩ := h
  split at h1
  · rename_i o ho
    rw [ho] at h3
    exact ⟨o, ho, h1, h2, h3⟩
  · cases h1
theorem draw_both {W0 : World} (hC : TabAt P W0 cx C) {ops : Array Oper} {Q : Exit → Act → World → Prop} (hsel : Region.noSelect ops = true) (hQ : ∀ c a w, ¬ Q (.panic c) a w) : ∀ (n : Nat) (L : Array Bool) {s : St} {a : Act} {w : World} {ρ : Nat → Value} {K : St → Tree}, Sim cx s a w ρ →
    interp out J (evOpsB P C ops n L s K) = some r → (∀ s' a' w' ρ', Sim cx s' a' w' ρ' → interp out J (K s') = some r → Q .normal a' w') → wpAnyG P ops Q (GB C ops) n L a w
  | 0, L, s, a, w, ρ, K, h, hr, hK => by
    simp only [evOpsB] at hr
    split at hr
    · rename_i hrd; exact ⟨hrd, hK s a w ρ h hr⟩
    · cases hr
  | n + 1, L, s, a, w, ρ, K, h, hr, hK => by
    have ih := fun (i : Nat) {s : St} {a : Act} {w : World} {ρ : Nat → Value} (h : Sim cx s a w ρ) (hr : interp out J (evOpsB P C ops n (L.setIfInBounds i true) s K) = some r) => draw_both hC hsel hQ n (L.setIfInBounds i true) h hr hK
    -- one operation
    have alone : ∀ (i : Nat) (o : Oper), ops[i]? = some o → interp out J (stepW P C ops (fun _ => true) o s fun s' => evOpsB P C ops n (L.setIfInBounds i true) s' K) = some r →
        wpOp P ops Q i (fun a' w' => GB C ops i w w' ∧ wpAnyG P ops Q (GB C ops) n (L.setIfInBounds i true) a' w') a w := by
      intro i o ho hr
      rcases stepW_out h hr with ⟨s2, h2, _, hw, hr2⟩ | ⟨s2, h2, hw, hr2⟩
      · unfold wpOp
        simp only [ho, hw, if_true]
        refine .inl ?_
        by_cases hrd : reads o.op = true
        · obtain ⟨x, hrun, hn⟩ := evOp_reads (B := fun _ => False) (fun _ _ _ _ _ h => h) (fun _ _ h => h) (N := fun a' w' => wpAnyG P ops Q (GB C ops) n (L.setIfInBounds i true) a' w') hrd h2 hr2 (by
            intro v s' w' ρ' x hr3 h3 hv
            exact ih i (h3.put o.dst hv) hr3)
          exact wp_pure (hrun w (Agree.refl _ w)) ⟨by unfold GB; rw [ho]; simp [hrd], hn⟩
        have hnr : reads o.op = false := by simpa using hrd
        have hN : Owed cx a o.dst out J r (fun v s' => evOpsB P C ops n (L.setIfInBounds i true) (s'.put o.dst v) K) (fun a' w' => wpAnyG P ops Q (GB C ops) n (L.setIfInBounds i true) a' w') := by
          intro v s' w' ρ' x hr3 h3 hv
          exact ih i (h3.put o.dst hv) hr3
        by_cases hdc : dataCall C o.op = true
        · refine Oper.wp_mono (fun a' w' hh => ⟨?_, hh.2⟩) (dataCall_below hC hdc h2 hr2 hN)
          unfold GB
          rw [ho]
          simp only [hnr, quiet, hdc, Bool.or_true, Bool.false_eq_true, if_false, if_true]
          exact hh.1
        by_cases hbs : isBS o.op = true
        · obtain ⟨T, m, ps, hop⟩ : ∃ T m ps, o.op = .buildSlice T m ps := by
            cases hop : o.op <;> rw [hop] at hbs <;> simp [isBS] at hbs
            exact ⟨_, _, _, rfl⟩
          refine Oper.wp_mono (fun a' w' hh => ⟨?_, hh.2⟩) (buildSlice_below hop h2 hr2 hN)
          unfold GB
          rw [ho]
          simp only [hnr, quiet, hbs, Bool.true_or, Bool.false_eq_true, if_false, if_true]
          exact hh.1
        · refine Oper.wp_mono (fun a' w' hh => ⟨?_, hh⟩) (evOp_sound hC h2 hr2 hN)
          unfold GB
          rw [ho]
          have hq : quiet C o.op = false := by simp [quiet, hbs, hdc]
          simp only [hnr, hq, Bool.false_eq_true, if_false]
      · have hn := ih i (h2.put o.dst (v := .undef) (rfl : V1 _ _ _ _ .undef undef)) hr2
        unfold wpOp
        simp only [ho, hw]
        refine ⟨?_, hn⟩
        unfold GB
        rw [ho]
        simp only
        split
        · trivial
        · split
          · exact Below.refl _ w
          · trivial
    simp only [evOpsB] at hr
    split at hr
    · rename_i hrd
      exact ⟨fun _ => hK s a w ρ h hr, fun i hi => by rw [hrd] at hi; cases hi⟩
    · rename_i r0 rs hrd
      split at hr
      · rename_i i hf
        have hmem : i ∈ Region.ready .any ops L := by rw [hrd]; exact List.mem_of_find?_eq_some hf
        obtain ⟨o, ho, hreads, hfree, hgood⟩ := hoistW_out (List.find?_some hf)
        simp only [ho] at hr
        have take : ∀ (v : Value), goodB C ops L i (behind ops i) = true → YieldsIf P ops (fun w' => Below w.heap.size w w') o v a →
            wpAnyG P ops Q (GB C ops) n (L.setIfInBounds i true) (a.put o.dst v) w → wpAnyG P ops Q (GB C ops) (n + 1) L a w := by
          intro v hgood hy hn
          obtain ⟨g1, g2, g3⟩ := goodB_out hgood
          refine wpAnyG_firstW (S := fun w' => Below w.heap.size w w') (behind ops i) ho (Region.noSelect_spec hsel) (fun c a' w' hq => (hQ c _ w' hq).elim) (fun w => by unfold GB; rw [ho]; simp [hreads]) g1 n L a w ?_ (Region.free_spec ho hfree) g2 hmem hy (Below.refl _ w) hn
          intro j oj hj _ hjW hjl w1 w2 h1 hg
          unfold GB at hg
          rw [hj] at hg
          simp only at hg
          rcases g3 j oj hj hjW hjl with h3 | h3
          · rw [if_pos h3] at hg; rw [hg]; exact h1
          · split at hg
            · rw [hg]; exact h1
            · first
                | exact h1.trans (hg.mono h1.size)
                | (rw [if_pos h3] at hg; exact h1.trans (hg.mono h1.size))
        have still : ∀ (v : Value), YieldsIf P ops (fun _ => True) o v a →
            wpAnyG P ops Q (GB C ops) n (L.setIfInBounds i true) (a.put o.dst v) w → wpAnyG P ops Q (GB C ops) (n + 1) L a w := by
          intro v hy hn
          exact wpAnyG_firstW (S := fun _ => True) [] ho (Region.noSelect_spec hsel) (fun c a' w' hq => (hQ c _ w' hq).elim) (fun w => by unfold GB; rw [ho]; simp [hreads]) (fun _ h => by cases h) n L a w (fun _ _ _ _ _ _ _ _ _ _ => trivial) (Region.free_spec ho hfree) (fun _ h => by cases h) hmem hy trivial hn
        rcases stepW_out h hr with ⟨s2, h2, _, hw, hr2⟩ | ⟨s2, h2, hw, hr2⟩
        · obtain ⟨x, hrun, hn⟩ := evOp_reads (B := fun _ => False) (fun _ _ _ _ _ h => h) (fun _ _ h => h) (N := fun a' w' => wpAnyG P ops Q (GB C ops) n (L.setIfInBounds i true) a' w') hreads h2 hr2 (by
            intro v s' w' ρ' x hr3 h3 hv
            exact ih i (h3.put o.dst hv) hr3)
          rcases hgood with hgood | hmv
          · exact take x hgood (.inl ⟨hw, fun w' e => hrun w' (.below e)⟩) hn
          · refine still x (.inl ⟨hw, fun w' _ => ?_⟩) hn
            have h1 := hrun w (Agree.refl _ w)
            obtain ⟨y, hop⟩ : ∃ y, o.op = .move y := by
              cases hop : o.op <;> rw [hop] at hmv <;> simp [isMove] at hmv
              exact ⟨_, rfl⟩
            have e : ∀ w', (execOp a.eval o).run P w' = .ok (.value (a.eval y)) w' := by
              intro w'
              unfold execOp
              rw [hop]
              simp
            rw [e w] at h1
            injection h1 with h1
            injection h1 with h1
            rw [e w', h1]
        · have hn := ih i (h2.put o.dst (v := .undef) (rfl : V1 _ _ _ _ .undef undef)) hr2
          rcases hgood with hgood | _
          · exact take undef hgood (.inr ⟨hw, rfl⟩) hn
          · exact still undef (.inr ⟨hw, rfl⟩) hn
      · split at hr
        · split at hr
          · rename_i o ho
            refine ⟨fun h0 => (by rw [hrd] at h0; cases h0), fun j hj => ?_⟩
            rw [hrd, List.mem_singleton] at hj
            subst hj
            exact alone _ o ho hr
          · cases hr
        · rename_i r2
          split at hr
          · rename_i o o2 ho ho2
            simp only [interp] at hr
            obtain ⟨hra, hrb⟩ := both_some hr
            refine ⟨fun h0 => (by rw [hrd] at h0; cases h0), fun j hj => ?_⟩
            rw [hrd] at hj
            rcases List.mem_cons.1 hj with e | hj
            · subst e; exact alone _ o ho hra
            · rw [List.mem_singleton] at hj
              subst hj
              exact alone _ o2 ho2 hrb
          · cases hr
        · cases hr
end
end Go.Rf
