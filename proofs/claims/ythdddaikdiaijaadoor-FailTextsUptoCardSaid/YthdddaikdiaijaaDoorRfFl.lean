/- Regions whose order is drawn, with calls that are handed objects: reads first; what a call does not come to may be read ahead of it. -/
import Derived.Test.YthdddaikdiaijaaDoorRfDr
namespace Go.Rf
open Go.RowKit (Below)
section
variable {P : Program} {C : Tab} {cx : Cx} {s s' s1 : St} {a : Act} {w w' : World} {ρ ρ' : Nat → Value} {R : Type} {out : List V → Mem → Option R} {J : Nat → St → Option R} {r : R}
/-- What an operation may change: nothing of these blocks. -/
def GF (ops : Array Oper) (PB : Nat → Prop) (j : Nat) (w w' : World) : Prop :=
  match ops[j]? with
  | some o => if reads o.op = true then w' = w else Agree (fun b => ¬ PB b) w w'
  | none => w' = w
theorem goodF_out {ops : Array Oper} {L : Array Bool} {i : Nat} {W : List Nat} (h : goodF ops L i W = true) :
    (∀ j ∈ W, ∀ oj, ops[j]? = some oj → ∃ e ∈ oj.after, Region.binds .any e = true ∧ (e.on = i ∨ e.on ∈ W)) ∧ (∀ j ∈ W, L.getD j false = false) ∧
    (∀ j oj, ops[j]? = some oj → j ∉ W → L.getD j true = false → reads oj.op = true) := by
  unfold goodF at h
  simp only [Bool.and_eq_true] at h
  obtain ⟨h1, h2⟩ := h
  refine ⟨fun j hj oj ho => ?_, fun j hj => ?_, fun j oj ho hj hl => ?_⟩
  · have := (List.all_eq_true.1 h1 j hj)
    simp only [Bool.and_eq_true] at this
    have h3 := this.2
    rw [ho] at h3
    obtain ⟨e, he, hb⟩ := Array.any_eq_true'.1 h3
    simp only [Bool.and_eq_true, Bool.or_eq_true, beq_iff_eq, List.contains_iff_mem] at hb
    exact ⟨e, he, hb.1, hb.2⟩
  · have := (List.all_eq_true.1 h1 j hj)
    simp only [Bool.and_eq_true, Bool.not_eq_true'] at this
    have h3 := this.1.1
    rcases Nat.lt_or_ge j L.size with h' | h'
    · simp [h'] at h3 ⊢; exact h3
    · simp [Array.getElem?_eq_none h'] at h3
  · have := List.all_eq_true.1 h2 j (List.mem_range.2 (Array.getElem?_eq_some_iff.1 ho).1)
    rw [ho, hl] at this
    simp only [Bool.or_eq_true, List.contains_iff_mem, Bool.or_false] at this
    rcases this with h3 | h3
    · exact (hj h3).elim
    · exact h3
/-- The key of a base's block. -/
theorem base_block (h : Sim cx s a w ρ) {FT : List Nat} {a0 : Act} (hI : ∀ t ∈ FT, a.tmps.getD t undef = a0.tmps.getD t undef) {t d : Nat} {p : List PS} {b : Nat} (ht : t ∈ FT) (hfr : s.fr.get t = .ptr d p) (hb' : hb (a0.tmps.getD t undef) = some b) :
    hb (ρ d) = some b ∧ ∃ v, getM s.mem d = some (.box v) := by
  have hvt := h.fr t
  rw [hfr] at hvt
  obtain ⟨b', off', h1, h2, v, hm⟩ := ptr_block hvt
  rw [← hI t ht, h2] at hb'
  have : b' = b := by simpa [hb] using hb'
  subst this
  exact ⟨by rw [h1]; rfl, v, hm⟩
theorem forceN_eq : ∀ (n : Nat) (k : Nat → Tree), forceN n k = k n
  | 0, _ => rfl
  | _ + 1, _ => rfl
theorem forceB_eq : ∀ (b : Bool) (k : Bool → Tree), forceB b k = k b
  | true, _ => rfl
  | false, _ => rfl
theorem forceL_eq : ∀ (l : List Nat) (k : List Nat → Tree), forceL l k = k l
  | [], _ => rfl
  | i :: l, k => by simp only [forceL, forceN_eq, forceL_eq l]
theorem forceP_eq : ∀ (l : List (Nat × Bool)) (k : List (Nat × Bool) → Tree), forceP l k = k l
  | [], _ => rfl
  | (i, b) :: l, k => by simp only [forceP, forceB_eq, forceN_eq, forceP_eq l]
theorem draw_float {W0 : World} (hC : TabAt P W0 cx C) {ops : Array Oper} {Q : Exit → Act → World → Prop} {FT : List Nat} {a0 : Act} (hsel : Region.noSelect ops = true) (hQ : ∀ c a w, ¬ Q (.panic c) a w) :
    ∀ (l : List Nat) (n : Nat) (L : Array Bool), sched ops n L = some l → (∀ j ∈ l, ∀ (o : Oper), ops[j]? = some o → ∀ t ∈ FT, o.dst ≠ some t) → ∀ {s : St} {a : Act} {w : World} {ρ : Nat → Value} {K : St → Tree}, Sim cx s a w ρ → (∀ t ∈ FT, a.tmps.getD t undef = a0.tmps.getD t undef) →
    interp out J (evOpsF P C ops FT (planF ops l L) s K) = some r → (∀ s' a' w' ρ', Sim cx s' a' w' ρ' → interp out J (K s') = some r → Q .normal a' w') → wpAnyG P ops Q (GF ops (Bof FT a0)) l.length L a w
  | [], n, L, hsc, _, s, a, w, ρ, K, h, _, hr, hK => by
    rcases sched_out hsc with ⟨_, h1⟩ | ⟨_, _, _, _, h1, _⟩
    · exact ⟨h1, hK s a w ρ h hr⟩
    · cases h1
  | i :: l, n, L, hsc, hFT, s, a, w, ρ, K, h, hI, hr, hK => by
    rcases sched_out hsc with ⟨h1, _⟩ | ⟨i', o, l', n', h1, ho, hsc', hkind⟩
    · cases h1
    · cases h1
      have keep : ∀ x, ∀ t ∈ FT, (a.put o.dst x).tmps.getD t undef = a0.tmps.getD t undef := by
        intro x t ht
        rw [← hI t ht]
        have hne := hFT i (by simp) o ho t ht
        cases hd : o.dst with
        | none => rfl
        | some d =>
          show (a.tmps.setIfInBounds d x).getD t undef = _
          simp only [Array.getD_eq_getD_getElem?, Array.getElem?_setIfInBounds]
          rw [if_neg (fun e => hne (by rw [hd, e]))]
      have ih := fun {s : St} {a : Act} {w : World} {ρ : Nat → Value} (h : Sim cx s a w ρ) (hI : ∀ t ∈ FT, a.tmps.getD t undef = a0.tmps.getD t undef) (hr : interp out J (evOpsF P C ops FT (planF ops l (L.setIfInBounds i true)) s K) = some r) => draw_float hC hsel hQ l n' _ hsc' (fun j hj => hFT j (List.mem_cons_of_mem _ hj)) h hI hr hK
      simp only [planF, evOpsF, ho] at hr
      have hGi : reads o.op = true → ∀ w, GF ops (Bof FT a0) i w w := fun hrd w => by unfold GF; rw [ho]; simp [hrd]
      rcases stepW_out h hr with ⟨s, h, hok, hw, hr⟩ | ⟨s, h, hw, hr⟩
      · skip
        rcases hkind with ⟨hrd, hfree, hready⟩ | ⟨heff, hready⟩
        · by_cases hgood : goodF ops L i (behind ops i) = true
          · obtain ⟨g1, g2, g3⟩ := goodF_out hgood
            obtain ⟨x, hrun, hn⟩ := evOp_reads (B := fun _ => False) (fun _ _ _ _ _ h => h) (fun _ _ h => h) (N := fun a' w' => (∀ t ∈ FT, a'.tmps.getD t undef = a0.tmps.getD t undef) → wpAnyG P ops Q (GF ops (Bof FT a0)) l.length (L.setIfInBounds i true) a' w') hrd h hr (by
              intro v s' w' ρ' x hr3 h3 hv hI'
              exact ih (h3.put o.dst hv) hI' hr3)
            refine wpAnyG_firstW (S := fun w' => Agree (fun _ => False) w w') (behind ops i) ho (Region.noSelect_spec hsel) (fun c a' w' hq => (hQ c _ w' hq).elim) (hGi hrd) g1 l.length L a w ?_ (Region.free_spec ho hfree) g2 (by simpa using hready) (.inl ⟨hw, hrun⟩) (Agree.refl _ w) (hn (keep x))
            intro j oj hj _ hjW hjl w1 w2 h1 hg'
            unfold GF at hg'
            rw [hj] at hg'
            simp only at hg'
            rw [if_pos (g3 j oj hj hjW hjl)] at hg'
            rw [hg']
            exact h1
          · rw [show goodF ops L i (behind ops i) = false by simpa using hgood] at hok
            obtain ⟨x, hrun, hn⟩ := evOp_reads (B := fun b => ¬ Bof FT a0 b) (by
                intro T q hop ad had
                unfold okF at hok
                rw [hop] at hok
                simp only [Bool.false_or] at hok
                unfold storeIn at hok
                split at hok
                · rename_i d p hev
                  have hvq := h.ev q
                  rw [hev] at hvq
                  obtain ⟨b, off, h1, h3', _⟩ := ptr_block hvq
                  rw [h3'] at had
                  cases had
                  obtain ⟨t, ht, hcond⟩ := List.any_eq_true.1 hok
                  split at hcond
                  · rename_i d' p' hfr
                    have hd := of_decide_eq_true hcond
                    subst hd
                    have hvt := h.fr t
                    rw [hfr] at hvt
                    obtain ⟨b', off', h1', h4', _⟩ := ptr_block hvt
                    rw [h1] at h1'
                    cases h1'
                    exact fun hn => hn ⟨t, ht, by rw [← hI t ht, h4']; rfl⟩
                  · cases hcond
                · cases hok)
              (by
                intro hhp
                exfalso
                unfold okF at hok
                cases hop : o.op <;> rw [hop] at hok hhp hrd <;> simp [heapy] at hhp hok
                rename_i c
                cases hcc : c.callee with
                | value f => rw [hcc] at hhp; cases hhp
                | invoke _ _ => rw [hcc] at hhp; cases hhp
                | builtin bi => rw [hcc] at hhp hok; simp at hok; rw [hok] at hhp; cases hhp)
              (N := fun a' w' => (∀ t ∈ FT, a'.tmps.getD t undef = a0.tmps.getD t undef) → wpAnyG P ops Q (GF ops (Bof FT a0)) l.length (L.setIfInBounds i true) a' w') hrd h hr (by
                intro v s' w' ρ' x hr3 h3 hv hI'
                exact ih (h3.put o.dst hv) hI' hr3)
            refine wpAnyG_firstW (S := fun w' => Agree (fun b => ¬ Bof FT a0 b) w w') [] ho (Region.noSelect_spec hsel) (fun c a' w' hq => (hQ c _ w' hq).elim) (hGi hrd) (fun _ h => by cases h) l.length L a w ?_ (Region.free_spec ho hfree) (fun _ h => by cases h) (by simpa using hready) (.inl ⟨hw, hrun⟩) (Agree.refl _ w) (hn (keep x))
            intro j oj hj _ _ _ w1 w2 h1 hg'
            unfold GF at hg'
            rw [hj] at hg'
            simp only at hg'
            split at hg'
            · rw [hg']; exact h1
            · exact h1.trans hg'
        · refine ⟨fun h0 => (by rw [hready] at h0; cases h0), fun j hj => ?_⟩
          rw [hready, List.mem_singleton] at hj
          subst hj
          unfold wpOp
          simp only [ho, hw, if_true]
          by_cases hic : isCall o.op = true
          · obtain ⟨c, hc1, xo, hc2⟩ : ∃ c, o.op = .call c ∧ ∃ xo, c.callee = .value xo := by
              cases hop : o.op <;> rw [hop] at hic <;> simp only [isCall] at hic <;> try (cases hic; done)
              rename_i c
              cases hcc : c.callee with
              | value f => exact ⟨c, rfl, f, hcc⟩
              | invoke _ _ => rw [hcc] at hic; cases hic
              | builtin _ => rw [hcc] at hic; cases hic
            have hnr : reads o.op = false := by rw [hc1]; simp [reads, hc2]
            have hall : ∀ t ∈ FT, ∃ d p, s.fr.get t = .ptr d p ∧ callFree s c.args.toList d = true := by
              intro t ht
              unfold okF at hok
              rw [hc1] at hok
              simp only [hc2] at hok
              have h1 := List.all_eq_true.1 hok t ht
              split at h1
              · rename_i d p hfr
                exact ⟨d, p, hfr, h1⟩
              · cases h1
            have hlt : ∀ b, Bof FT a0 b → b < w.heap.size := by
              rintro b ⟨t, ht, hb'⟩
              obtain ⟨d, p, hfr, _⟩ := hall t ht
              obtain ⟨h1, v, hm⟩ := base_block h hI ht hfr hb'
              exact (h.ge d _ b hm h1).2
            refine .inl (call_sound hC (.inr ?_) hc1 hc2 h hr ?_)
            · intro v s' w' ρ' x hr3 h3 hv hF
              refine ⟨?_, ih (h3.put o.dst hv) (keep x) hr3⟩
              unfold GF
              rw [ho]
              simp only [hnr, Bool.false_eq_true, if_false]
              refine ⟨hF.1, fun k hk hn => ?_⟩
              obtain ⟨t, ht, hb'⟩ := Classical.not_not.1 hn
              obtain ⟨d, p, hfr, hcf⟩ := hall t ht
              obtain ⟨h1, u, hm⟩ := base_block h hI ht hfr hb'
              exact hF.2 d u k hcf hm h1
            · intro v s' w' ρ' x hr3 h3 hv hb'
              refine ⟨?_, ih (h3.put o.dst hv) (keep x) hr3⟩
              unfold GF
              rw [ho]
              simp only [hnr, Bool.false_eq_true, if_false]
              exact Agree.below hb'
          have hnc : isCall o.op = false := by simpa using hic
          rw [hnc, Bool.false_or] at heff
          obtain ⟨T, xa, xx, hop⟩ : ∃ T xa xx, o.op = .store T xa xx := by
            cases hop : o.op <;> rw [hop] at heff <;> simp [isStore] at heff
            exact ⟨_, _, _, rfl⟩
          refine .inl (store_op hop h hr ?_)
          intro v s' w' ρ' x hr3 h3 hv hag
          refine ⟨?_, ih (h3.put o.dst hv) (keep x) hr3⟩
          unfold GF
          rw [ho]
          have hnr : reads o.op = false := by rw [hop]; rfl
          simp only [hnr, Bool.false_eq_true, if_false]
          unfold okF at hok
          rw [hop] at hok
          simp only at hok
          unfold loadFree at hok
          split at hok
          · rename_i d p hev
            have hvq := h.ev xa
            rw [hev] at hvq
            obtain ⟨b, off, h1, h3', v', hm⟩ := ptr_block hvq
            have hA := hag (fun k => k = b) _ h3' rfl
            refine ⟨hA.size, fun k hk hn => hA.block k hk fun e => hn ?_⟩
            subst e
            rintro ⟨t, ht, hbt⟩
            have hall := List.all_eq_true.1 hok t ht
            split at hall
            · rename_i d' p' hfr
              obtain ⟨h4, u, hm'⟩ := base_block h hI ht hfr hbt
              exact (of_decide_eq_true hall) (h.ds d' d _ _ k hm' hm h4 (by rw [h1]; rfl))
            · cases hall
          · cases hok
      · have hn := ih (h.put o.dst (v := .undef) (rfl : V1 _ _ _ _ .undef undef)) (keep undef) hr
        rcases hkind with ⟨hrd, hfree, hready⟩ | ⟨heff, hready⟩
        · refine wpAnyG_firstW (S := fun _ => True) [] ho (Region.noSelect_spec hsel) (fun c a' w' hq => (hQ c _ w' hq).elim) (hGi hrd) (fun _ h => by cases h) l.length L a w (fun _ _ _ _ _ _ _ _ _ _ => trivial) (Region.free_spec ho hfree) (fun _ h => by cases h) (by simpa using hready) (.inr ⟨hw, rfl⟩) trivial hn
        · refine ⟨fun h0 => (by rw [hready] at h0; cases h0), fun j hj => ?_⟩
          rw [hready, List.mem_singleton] at hj
          subst hj
          unfold wpOp
          simp only [ho, hw]
          refine ⟨?_, hn⟩
          unfold GF
          rw [ho]
          simp only
          split
          · trivial
          · exact Agree.refl _ w
end
end Go.Rf
