/- Code, loops, functions. -/
import Derived.Test.YthdddaikdiaijaaDoorRfAl
import Derived.Test.YthdddaikdiaijaaDoorRfFl
import Derived.Test.YthdddaikdiaijaaDoorRfIn
namespace Go.Rf
open Go.RowKit (Below)
section
variable {P : Program} {C : Tab} {cx : Cx} {s s' s1 : St} {a : Act} {w w' : World} {ρ ρ' : Nat → Value} {R : Type} {out : List V → Mem → Option R} {J : Nat → St → Option R} {r : R}
/-! ### code -/
def Goes (P : Program) (f : FuncId) (todo : List Item) (a : Act) (w : World) (R : Value → World → Prop) : Prop :=
  ∀ (b : Frame) (cs : List Frame), b.fn = f → b.kind = .normal → ∃ v w' fr, R v w' ∧ Steps P (lone (b.at a todo) cs w) (lone fr cs w') ∧ fr.fn = f ∧ fr.leaving P w' (.returned v)
theorem Goes.step {f : FuncId} {todo todo' : List Item} {a' : Act} {R : Value → World → Prop} (hs : ∀ (b : Frame) (cs : List Frame), Go.step P (lone (b.at a todo) cs w) = .next (lone (b.at a' todo') cs w')) (h : Goes P f todo' a' w' R) : Goes P f todo a w R := by
  intro b cs hb hk
  obtain ⟨v, w2, fr, hR, hst, hfn, hl⟩ := h b cs hb hk
  exact ⟨v, w2, fr, hR, .head (hs b cs) hst, hfn, hl⟩
def occ (i : Nat) : List Item → List (List Item)
  | [] => []
  | .code c :: k => occC i c k ++ occ i k
  | .inLoop c :: k => (if 2 * rid c = i then [.inLoop c :: k] else []) ++ occC i c (.inLoop c :: k) ++ occ i k
  | _ :: k => occ i k
theorem occ_exit {i id : Nat} : ∀ {k k' : List Item}, exitTo id k = some k' → ∀ t ∈ occ i k', t ∈ occ i k
  | [], _, h, _, _ => by simp [exitTo] at h
  | x :: k, k', h, t, ht => by
    have tail : ∀ u, u ∈ occ i k → u ∈ occ i (x :: k) := by
      intro u hu
      cases x <;> simp only [occ, List.mem_append] <;> first | exact .inr hu | exact hu
    cases x with
    | inBlock id' =>
      simp only [exitTo] at h
      split at h
      · cases h; exact tail t ht
      · exact tail t (occ_exit h t ht)
    | _ => exact tail t (occ_exit (by simpa [exitTo] using h) t ht)
def resM (tmps : Array Value) : ResultVar → Sem Value
  | .tmp t => pure (tmps.getD t undef)
  | .cell x t => do loadVar t (← asAddr (tmps.getD x undef))
/-- The results of a function. -/
theorem res_sound (h : Sim cx s a w ρ) : ∀ (rs : List ResultVar) (vs : List V), rs.all (resOK P s) = true → rs.mapM (resV s) = some vs →
    ∃ xs, (rs.mapM (resM a.tmps)).run P w = .ok xs w ∧ xs.length = rs.length ∧ ∃ vx : List (V × Value), vx.map (·.1) = vs ∧ vx.map (·.2) = xs ∧ ∀ p ∈ vx, VR w (Own cx ρ s.mem) ρ s.mem p.1 p.2
  | [], vs, _, hm => by
    simp at hm
    subst hm
    exact ⟨[], rfl, rfl, [], rfl, rfl, fun _ h => by cases h⟩
  | rv :: rs, vs, hall, hm => by
    simp only [List.all_cons, Bool.and_eq_true] at hall
    simp only [List.mapM_cons, Option.bind_eq_bind, Option.pure_def] at hm
    cases hv : resV s rv with
    | none => rw [hv] at hm; cases hm
    | some v =>
      rw [hv] at hm
      simp only [Option.bind_some] at hm
      cases hvs : rs.mapM (resV s) with
      | none => rw [hvs] at hm; cases hm
      | some vs' =>
        rw [hvs] at hm
        cases hm
        obtain ⟨xs, hrun, hlen, vx, h1, h2, h3⟩ := res_sound h rs vs' hall.2 hvs
        have key : ∃ x, (resM a.tmps rv).run P w = .ok x w ∧ VR w (Own cx ρ s.mem) ρ s.mem v x := by
          cases rv with
          | tmp t =>
            simp only [resV] at hv
            cases hv
            exact ⟨_, rfl, h.fr t⟩
          | cell y t =>
            simp only [resV] at hv
            have hok := hall.1
            simp only [resOK, hv] at hok
            obtain ⟨b, off, us, e, hus, hc⟩ := h.deref hv (h.fr y)
            obtain ⟨x, hx, hvx⟩ := load_sound (P := P) (b := b) (off := off) hok hus
            have hx := hx w hc
            refine ⟨x, ?_, hvx⟩
            simp only [resM, Sem.run_bind, e, asAddr, Sem.run_pure, Result.andThen_ok, hx]
        obtain ⟨x, hx, hvx⟩ := key
        refine ⟨x :: xs, ?_, by simp [hlen], (v, x) :: vx, by simp [h1], by simp [h2], ?_⟩
        · rw [List.mapM_cons, Sem.run_bind, hx]
          simp only [Result.andThen_ok, Sem.run_bind, hrun]
          rfl
        · intro p hp
          rcases List.mem_cons.1 hp with e | hp
          · subst e; exact hvx
          · exact h3 p hp
/-- What a function leaves behind. -/
def Post (cx : Cx) (rt : List Ty) (z : dens rt) (v : Value) (w' : World) : Prop := ∃ ys, v = wrapVal ys ∧ Bel cx.ok cx.w0 w' ∧ RR w' cx.own rt z ys
/-- What is owed at a function's end. -/
def EndOK (cx : Cx) {R : Type} (out : List V → Mem → Option R) (z : R) (Pst : Value → World → Prop) : Prop :=
  ∀ (s : St) (a : Act) (w : World) (ρ : Nat → Value) (vx : List (V × Value)), Sim cx s a w ρ → (∀ p ∈ vx, VR w (Own cx ρ s.mem) ρ s.mem p.1 p.2) → out (vx.map (·.1)) s.mem = some z → Pst (wrapVal (vx.map (·.2))) w
theorem end_data {rt : List Ty} {z : dens rt} : EndOK cx (fun vs m => decs m rt vs) z (Post cx rt z) := by
  intro s a w ρ vx h h3 hd
  have hrr := decs_sound (own' := cx.own) h.rows (fun b hb' => .inl hb') h3 (fun p hp d hdk b hb' hob => by
    have hkn := decs_known hd p.1 (List.mem_map.2 ⟨p, hp, rfl⟩)
    obtain ⟨E, t, l, hg⟩ := rowKey_is (h3 p hp) hkn hdk
    exact h.no d _ b hg hb' hob) hd
  exact ⟨_, rfl, h.be, hrr⟩
theorem end_sound {fn : Func} {R : Type} {out : List V → Mem → Option R} {J : Nat → St → Option R} {z : R} {Pst : Value → World → Prop} (hE : EndOK cx out z Pst) (h : Sim cx s a w ρ)
    (hr : interp out J (evRes P fn.results.toList s) = some z) :
    ∃ v, Pst v w ∧ (results fn a.tmps).run P w = .ok v w := by
  unfold evRes at hr
  split at hr
  · rename_i vs hok hm
    obtain ⟨xs, hrun, hlen, vx, h1, h2, h3⟩ := res_sound h _ _ hok hm
    have hd : out vs s.mem = some z := hr
    rw [← h1] at hd
    have hpst := hE s a w ρ vx h h3 hd
    rw [h2] at hpst
    refine ⟨wrapVal xs, hpst, ?_⟩
    have hres : results fn a.tmps = (fn.results.mapM (resM a.tmps)) >>= fun vs => pure (if h : vs.size = 1 then vs[0] else .tuple vs) := by
      unfold results
      congr 2
    rw [hres, Sem.run_bind, Array.mapM_eq_mapM_toList, Sem.run_map, hrun]
    simp only [Result.andThen_ok]
    match xs with
    | [] => rfl
    | [x] => rfl
    | x :: y :: r => rfl
  · cases hr
theorem TabAt.pureT {W0 : World} (hC : TabAt P W0 cx C) : TabAt P W0 cx C.pureT := ⟨⟨hC.1.1, fun _ h => by cases h⟩, hC.2⟩
theorem run_sound {W0 : World} (hC : TabAt P W0 cx C) {f : FuncId} {fn : Func} {R : Type} {out : List V → Mem → Option R} {J : Nat → St → Option R} {z : R} {Pst : Value → World → Prop} (hE : EndOK cx out z Pst) {cuts : List Nat} {td : Nat → List Item} (hf : P.funcs[f]? = some fn)
    (hJ : ∀ i s a w ρ, Sim cx s a w ρ → J i s = some z → Goes P f (td i) a w Pst) :
    ∀ (n : Nat) (fst : Bool) (todo : List Item) {s : St} {a : Act} {w : World} {ρ : Nat → Value}, Sim cx s a w ρ → (∀ i s, J i s = some z → ∀ t ∈ occ i todo, t = td i) →
      interp out J (run P C fn.results.toList cuts fst n todo s) = some z → Goes P f todo a w Pst
  | 0, _, _, _, _, _, _, _, _, hr => by cases hr
  | n + 1, fst, todo, s, a, w, ρ, h, hok, hr => by
    unfold run at hr
    have leave : ∀ (todo : List Item), (∀ (b : Frame) (cs : List Frame), ∃ t2, Go.step P (lone (b.at a todo) cs w) = .next (lone { b.at a t2 with mode := .returning } cs w)) →
        interp out J (evRes P fn.results.toList s) = some z → Goes P f todo a w Pst := by
      intro todo hs hr
      obtain ⟨v, hp, hres⟩ := end_sound hE h hr
      intro b cs hb hk
      obtain ⟨t2, hst⟩ := hs b cs
      exact ⟨v, w, { b.at a t2 with mode := .returning }, hp, .one hst, hb, rfl, h.df, hk, fn, by rw [show ({ b.at a t2 with mode := .returning } : Frame).fn = b.fn from rfl, hb]; exact hf, hres⟩
    split at hr
    · exact leave [] (fun b cs => ⟨[], step_end⟩) hr
    · rename_i c k
      have sub : ∀ todo', (∀ i t, t ∈ occ i todo' → t ∈ occ i (.code c :: k)) → ∀ i s, J i s = some z → ∀ t ∈ occ i todo', t = td i := fun todo' hs i s hj t ht => hok i s hj t (hs i t ht)
      split at hr
      · exact Goes.step (fun b cs => step_skip) (run_sound hC hE hf hJ n _ _ h (sub _ fun i t ht => by simp only [occ, List.mem_append]; exact .inr ht) hr)
      · refine Goes.step (fun b cs => step_seq) (run_sound hC hE hf hJ n _ _ h (sub _ fun i t ht => ?_) hr)
        simp only [occ, occC, List.mem_append] at ht ⊢
        rcases ht with ht | ht | ht
        · exact .inl (.inl ht)
        · exact .inl (.inr ht)
        · exact .inr ht
      · rename_i x p q
        cases hv : ev s x <;> rw [hv] at hr <;> try (cases hr; done)
        rename_i t
        have hx := h.ev x
        rw [hv] at hx
        refine Goes.step (fun b cs => step_cond hx.bool) ?_
        cases t with
        | true =>
          refine run_sound hC hE hf hJ n _ _ h (sub _ fun i t ht => ?_) hr
          simp only [occ, occC, List.mem_append] at ht ⊢
          rcases ht with ht | ht
          · exact .inl (.inl ht)
          · exact .inr ht
        | false =>
          refine run_sound hC hE hf hJ n _ _ h (sub _ fun i t ht => ?_) hr
          simp only [occ, occC, List.mem_append] at ht ⊢
          rcases ht with ht | ht
          · exact .inl (.inr ht)
          · exact .inr ht
      · rename_i id ops draw
        split at hr
        · have hj : J (2 * id + 1) s = some z := hr
          have := hok _ _ hj _ (by simp only [occ, occC, if_true]; exact List.mem_append_left _ (List.mem_singleton.2 rfl))
          rw [this]
          exact hJ _ _ _ _ _ h hj
        · intro b cs hb hk
          have hwp := evOps_sound (Q := fun e a' w' => match e with | .normal => Goes P f k a' w' Pst | _ => False) hC ops.toList h hr (fun s' a' w' ρ' h' hr' => run_sound hC hE hf hJ n _ _ h' (sub _ fun i t ht => by
            simp only [occ, List.mem_append]; exact .inr ht) hr')
          have hwp2 : wpOps P ops (fun e a' w' => match e with | .normal => Goes P f k a' w' Pst | _ => False) (List.range ops.size) a w := by
            rw [List.range_eq_range', ← Array.length_toList, wpOps_eq_wpList ops.toList 0 (by simp)]
            exact hwp
          obtain ⟨e, a', w', hq, harr⟩ := wp_ops _ a w hwp2 b k cs
          cases e <;> try (exact hq.elim)
          obtain ⟨v, w2, fr, hR, hst, hfn, hl⟩ := hq b cs hb hk
          exact ⟨v, w2, fr, hR, Steps.trans (.head step_region harr) hst, hfn, hl⟩
        · split at hr
          · rename_i l hl
            unfold drawOrder at hl
            split at hl
            · rename_i hcond
              simp only [Bool.and_eq_true] at hcond
              split at hl
              · rename_i l2 hsc
                split at hl
                · rename_i hlen
                  cases hl
                  have h1 : Sim cx s a { w with drawn := w.drawn + 1 } ρ := h.later ((Below.refl _ w).drew)
                  have cont : ∀ s' a' w' ρ', Sim cx s' a' w' ρ' → interp out J (run P C fn.results.toList cuts false n k s') = some z → Goes P f k a' w' Pst := fun s' a' w' ρ' h' hr' =>
                    run_sound hC hE hf hJ n _ _ h' (sub _ fun i t ht => by simp only [occ, List.mem_append]; exact .inr ht) hr'
                  have fin : (Code.region id ops true).wp P (fun e a' w' => match e with | .normal => Goes P f k a' w' Pst | _ => False) a w → Goes P f (.code (.region id ops true) :: k) a w Pst := by
                    intro hwp b cs hb hk
                    obtain ⟨e, a', w', hq, harr⟩ := hwp b k cs
                    cases e <;> try (exact hq.elim)
                    obtain ⟨v, w2, fr, hR, hst, hfn, hl⟩ := hq b cs hb hk
                    exact ⟨v, w2, fr, hR, Steps.trans harr hst, hfn, hl⟩
                  split at hr
                  · split at hr
                    · rename_i FT hFT
                      unfold floatBases at hFT
                      split at hFT
                      · split at hFT
                        · rename_i hdst
                          cases hFT
                          have hdst' : ∀ (j : Nat) (o : Oper), ops[j]? = some o → ∀ t ∈ FT, o.dst ≠ some t := by
                            intro j o hj t ht e
                            have := Array.all_eq_true_iff_forall_mem.1 hdst o (Array.mem_of_getElem? hj)
                            rw [e] at this
                            simp [ht] at this
                          have hwp := draw_float (Q := fun e a' w' => match e with | .normal => Goes P f k a' w' Pst | _ => False) (a0 := a) hC hcond.2 (fun _ _ _ hq => hq) l _ _ hsc (fun j _ => hdst' j) h1 (fun _ _ => rfl) (by rw [forceL_eq, forceP_eq] at hr; exact hr) cont
                          rw [hlen] at hwp
                          exact fin (wp_region_any (id := id) hcond.1 (wpAny_of_G _ _ _ _ hwp))
                        · cases hFT
                      · cases hFT
                    · cases hr
                  split at hr
                  · rename_i hns
                    have hns' : ∀ (j : Nat) (o : Oper), ops[j]? = some o → isStore o.op = false := by
                      intro j o hj
                      have := Array.any_eq_false'.1 hns o (Array.mem_of_getElem? hj)
                      simpa using this
                    have hwp := draw_ops (Q := fun e a' w' => match e with | .normal => Goes P f k a' w' Pst | _ => False) hC.pureT rfl hns' hcond.2 (fun _ _ _ hq => hq) l _ _ hsc h1 hr cont
                    rw [hlen] at hwp
                    exact fin (wp_region_held (id := id) hcond.1 hwp)
                  · split at hr
                    · split at hr
                      · rename_i BT hBT
                        unfold storeBases at hBT
                        split at hBT
                        · split at hBT
                          · rename_i hdst
                            cases hBT
                            have hdst' : ∀ (j : Nat) (o : Oper), ops[j]? = some o → ∀ t ∈ BT, o.dst ≠ some t := by
                              intro j o hj t ht e
                              have := Array.all_eq_true_iff_forall_mem.1 hdst o (Array.mem_of_getElem? hj)
                              rw [e] at this
                              simp [ht] at this
                            have hwp := draw_stores (Q := fun e a' w' => match e with | .normal => Goes P f k a' w' Pst | _ => False) (a0 := a) hC.pureT rfl hcond.2 (fun _ _ _ hq => hq) l _ _ hsc (fun j _ => hdst' j) h1 (fun _ _ => rfl) hr cont
                            rw [hlen] at hwp
                            exact fin (wp_region_any (id := id) hcond.1 (wpAny_of_G _ _ _ _ hwp))
                          · cases hBT
                        · cases hBT
                      · cases hr
                    · split at hr
                      · have hwp := draw_both (Q := fun e a' w' => match e with | .normal => Goes P f k a' w' Pst | _ => False) hC hcond.2 (fun _ _ _ hq => hq) ops.size _ h1 hr cont
                        exact fin (wp_region_any (id := id) hcond.1 (wpAny_of_G _ _ _ _ hwp))
                      · cases hr
                · cases hl
              · cases hl
            · cases hl
          · split at hr
            · rename_i lA lB BT hdr
              unfold drawA at hdr
              split at hdr
              · rename_i hcond
                simp only [Bool.and_eq_true] at hcond
                split at hdr
                · rename_i lA' hsA
                  split at hdr
                  · rename_i lB' BT' hsB _
                    split at hdr
                    · rename_i hchk
                      cases hdr
                      simp only [Bool.and_eq_true] at hchk
                      obtain ⟨⟨⟨hlen, hnd⟩, hdA⟩, hdB⟩ := hchk
                      have hlen := of_decide_eq_true hlen
                      have hnd := of_decide_eq_true hnd
                      have out_of : ∀ {ts l : List Nat}, l.all (dstOut ops ts) = true → ∀ j ∈ l, ∀ (o : Oper), ops[j]? = some o → ∀ t ∈ ts, o.dst ≠ some t := by
                        intro ts l hall j hj o ho t ht e
                        have := List.all_eq_true.1 hall j hj
                        unfold dstOut at this
                        rw [ho] at this
                        simp only [e] at this
                        simp [ht] at this
                      have h1 : Sim cx s a { w with drawn := w.drawn + 1 } ρ := h.later ((Below.refl _ w).drew)
                      have cont : ∀ s' a' w' ρ', Sim cx s' a' w' ρ' → interp out J (run P C fn.results.toList cuts false n k s') = some z → Goes P f k a' w' Pst := fun s' a' w' ρ' h' hr' =>
                        run_sound hC hE hf hJ n _ _ h' (sub _ fun i t ht => by simp only [occ, List.mem_append]; exact .inr ht) hr'
                      have hwp := draw_A (Q := fun e a' w' => match e with | .normal => Goes P f k a' w' Pst | _ => False) hC.pureT rfl hcond.2 (fun _ _ _ hq => hq) (AL := allocsOf P ops) (lB := lB) (BT := BT)
                        (fun i hi => by
                          have := (List.mem_filter.1 hi).2
                          cases hx : aOp P ops i with
                          | none => rw [hx] at this; cases this
                          | some x => exact ⟨x.1, x.2, rfl⟩)
                        (List.Pairwise.filter _ List.nodup_range) hnd (out_of hdB) cont lA _ _ hsA hsB (out_of hdA)
                        (fun i hi => by
                          have := (List.mem_range.1 (List.mem_filter.1 hi).1)
                          simp [Array.getD, this])
                        (allocsOf P ops).length [] (fun _ => 0) (by simp) List.nodup_nil (fun _ h => by cases h) (fun _ h => by cases h) (fun _ h => by cases h) List.nodup_nil
                        (by rw [show List.map (fun _ => 0) ([] : List Nat) = [] from rfl, asd_nil]; exact h1.clr _) (clr_any _ _) hr
                      rw [hlen] at hwp
                      intro b cs hb hk
                      obtain ⟨e, a', w', hq, harr⟩ := wp_region_any (id := id) hcond.1 (wpAny_of_G _ _ _ _ hwp) b k cs
                      cases e <;> try (exact hq.elim)
                      obtain ⟨v, w2, fr, hR, hst, hfn, hl⟩ := hq b cs hb hk
                      exact ⟨v, w2, fr, hR, Steps.trans harr hst, hfn, hl⟩
                    · cases hdr
                  · cases hdr
                · cases hdr
              · cases hdr
            · split at hr
              · rename_i l hl
                unfold drawW at hl
                split at hl
                · rename_i hcond
                  simp only [Bool.and_eq_true] at hcond
                  split at hl
                  · rename_i l2 hsc
                    split at hl
                    · rename_i hlen
                      cases hl
                      have h1 : Sim cx s a { w with drawn := w.drawn + 1 } ρ := h.later ((Below.refl _ w).drew)
                      have hwp := draw_wild (Q := fun e a' w' => match e with | .normal => Goes P f k a' w' Pst | _ => False) hC hcond.2 (fun _ _ _ hq => hq) l _ _ hsc h1 hr
                        (fun s' a' w' ρ' h' hr' => run_sound hC hE hf hJ n _ _ h' (sub _ fun i t ht => by simp only [occ, List.mem_append]; exact .inr ht) hr')
                      rw [hlen] at hwp
                      intro b cs hb hk
                      obtain ⟨e, a', w', hq, harr⟩ := wp_region_any (id := id) hcond.1 (wpAny_of_G _ _ _ _ hwp) b k cs
                      cases e <;> try (exact hq.elim)
                      obtain ⟨v, w2, fr, hR, hst, hfn, hl⟩ := hq b cs hb hk
                      exact ⟨v, w2, fr, hR, Steps.trans harr hst, hfn, hl⟩
                    · cases hl
                  · cases hl
                · cases hl
              · split at hr
                · rename_i hcond
                  simp only [Bool.and_eq_true] at hcond
                  split at hr
                  · have h1 : Sim cx s a { w with drawn := w.drawn + 1 } ρ := h.later ((Below.refl _ w).drew)
                    have hwp := draw_inner (Q := fun e a' w' => match e with | .normal => Goes P f k a' w' Pst | _ => False) hC hcond.2 (fun _ _ _ hq => hq) (allocTs ops) w.heap.size ops.size true [] _ h1 (fun _ => Nat.le_refl _) (fun _ h => by cases h) (Nat.le_refl _) hr
                      (fun s' a' w' ρ' h' hr' => run_sound hC hE hf hJ n _ _ h' (sub _ fun i t ht => by simp only [occ, List.mem_append]; exact .inr ht) hr')
                    intro b cs hb hk
                    obtain ⟨e, a', w', hq, harr⟩ := wp_region_any (id := id) hcond.1 (wpAny_of_G _ _ _ _ hwp) b k cs
                    cases e <;> try (exact hq.elim)
                    obtain ⟨v, w2, fr, hR, hst, hfn, hl⟩ := hq b cs hb hk
                    exact ⟨v, w2, fr, hR, Steps.trans harr hst, hfn, hl⟩
                  · have h1 : Sim cx s a { w with drawn := w.drawn + 1 } ρ := h.later ((Below.refl _ w).drew)
                    have hwp := draw_both (Q := fun e a' w' => match e with | .normal => Goes P f k a' w' Pst | _ => False) hC hcond.2 (fun _ _ _ hq => hq) ops.size _ h1 hr
                      (fun s' a' w' ρ' h' hr' => run_sound hC hE hf hJ n _ _ h' (sub _ fun i t ht => by simp only [occ, List.mem_append]; exact .inr ht) hr')
                    intro b cs hb hk
                    obtain ⟨e, a', w', hq, harr⟩ := wp_region_any (id := id) hcond.1 (wpAny_of_G _ _ _ _ hwp) b k cs
                    cases e <;> try (exact hq.elim)
                    obtain ⟨v, w2, fr, hR, hst, hfn, hl⟩ := hq b cs hb hk
                    exact ⟨v, w2, fr, hR, Steps.trans harr hst, hfn, hl⟩
                · cases hr
      · exact Goes.step (fun b cs => step_block) (run_sound hC hE hf hJ n _ _ h (sub _ fun i t ht => by
          simp only [occ, occC, List.mem_append] at ht ⊢; exact ht) hr)
      · rename_i body
        have hj : J (2 * rid body) s = some z := hr
        have := hok _ _ hj (.inLoop body :: k) (by simp [occ, occC])
        have hg := hJ _ _ _ _ _ h hj
        rw [← this] at hg
        intro b cs hb hk
        obtain ⟨v, w2, fr, hR, hst, hfn, hl⟩ := hg b cs hb hk
        obtain ⟨m, hm⟩ := hst
        cases m with
        | zero =>
          simp only [runN] at hm
          injection hm with hm
          have e1 : b.at a (.inLoop body :: k) = fr := by
            have := congrArg Machine.gs hm
            simp [lone] at this
            exact this
          have := hl.1
          rw [← e1] at this
          cases this
        | succ m =>
          refine ⟨v, w2, fr, hR, ⟨m + 1, ?_⟩, hfn, hl⟩
          simp only [runN, step_inLoop] at hm
          simp only [runN, step_loop]
          exact hm
      · rename_i id
        split at hr
        · rename_i k' he
          exact Goes.step (fun b cs => step_exit he) (run_sound hC hE hf hJ n _ _ h (sub _ fun i t ht => by
            simp only [occ, List.mem_append]; exact .inr (occ_exit he t ht)) hr)
        · cases hr
      · exact leave _ (fun b cs => ⟨_, step_ret⟩) hr
      · cases hr
    · rename_i id k
      exact Goes.step (fun b cs => step_inBlock) (run_sound hC hE hf hJ n _ _ h (fun i s hj t ht => hok i s hj t (by simpa [occ] using ht)) hr)
    · rename_i body k
      split at hr
      · refine Goes.step (fun b cs => step_inLoop) (run_sound hC hE hf hJ n _ _ h (fun i s hj t ht => hok i s hj t ?_) hr)
        simp only [occ, List.mem_append] at ht ⊢
        rcases ht with ht | (ht | ht) | ht
        · exact .inl (.inr ht)
        · exact .inl (.inl ht)
        · exact .inl (.inr ht)
        · exact .inr ht
      · have hj : J (2 * rid body) s = some z := hr
        have := hok _ _ hj (.inLoop body :: k) (by simp [occ])
        have hg := hJ _ _ _ _ _ h hj
        rw [← this] at hg
        exact hg
    · cases hr
end
end Go.Rf
