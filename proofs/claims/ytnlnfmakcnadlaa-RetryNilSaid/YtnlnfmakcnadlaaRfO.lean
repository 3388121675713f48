/- Regions, code, loops, functions. -/
import Derived.Test.YtnlnfmakcnadlaaRfN
namespace Go.Rf
open Go.RowKit (Below)
section
variable {P : Program} {C : List Entry} {cx : Cx} {s s' s1 : St} {a : Act} {w w' : World} {ρ ρ' : Nat → Value} {R : Type} {out : List V → Mem → Option R} {J : Nat → St → Option R} {r : R}
/-- What is known of a slot is noted. -/
theorem Sim.note (h : Sim cx s a w ρ) {d : Nat} {v : V} (hv : VR w (Own cx ρ s.mem) ρ s.mem v (a.tmps.getD d undef)) : Sim cx (s.put (some d) v) a w ρ := by
  refine ⟨h.sz, h.df, h.be, h.fo, h.ge, h.ds, h.ob, fun t => ?_⟩
  show VR w (Own cx ρ s.mem) ρ s.mem ((s.fr.set d (if d < s.n then v else .any)).get t) (a.tmps.getD t undef)
  rcases Fr.get_set s.fr d t (if d < s.n then v else .any) with ⟨e, h1 | h1⟩ | ⟨hne, h1⟩
  · rw [h1]
    split
    · subst e; exact hv
    · trivial
  · rw [h1]; trivial
  · rw [h1]; exact h.fr t
theorem yielded_bool {ops : Array Oper} {j d : Nat} {b : Bool} (hg : guardOf ops j = some d) (hv : a.tmps.getD d undef = .bool b) : yielded ops a.tmps j = some b := by
  unfold guardOf at hg
  unfold yielded
  rw [hg]
  simp only [Option.bind_some]
  have : a.tmps[d]? = some (.bool b) := by
    cases ht : a.tmps[d]? with
    | none => simp [Array.getD_eq_getD_getElem?, ht, undef] at hv
    | some x => simp [Array.getD_eq_getD_getElem?, ht] at hv; rw [hv]
  rw [this]
theorem yielded_undef {ops : Array Oper} {j d : Nat} (hg : guardOf ops j = some d) (hv : a.tmps.getD d undef = undef) : yielded ops a.tmps j = none := by
  unfold guardOf at hg
  unfold yielded
  rw [hg]
  simp only [Option.bind_some]
  cases ht : a.tmps[d]? with
  | none => rfl
  | some x =>
    have : x = undef := by simpa [Array.getD_eq_getD_getElem?, ht] using hv
    rw [this]
    rfl
theorem evOps_sound (hC : TableOK P C) {ops : Array Oper} {Q : Exit → Act → World → Prop} : ∀ (os : List Oper) {s : St} {a : Act} {w : World} {ρ : Nat → Value} {K : St → Tree}, Sim cx s a w ρ → interp out J (evOps P C ops os s K) = some r →
    (∀ s' a' w' ρ', Sim cx s' a' w' ρ' → interp out J (K s') = some r → Q .normal a' w') → wpList P ops Q os a w
  | [], s, a, w, ρ, K, h, hr, hK => hK s a w ρ h hr
  | o :: os, s, a, w, ρ, K, h, hr, hK => by
    have exec : ∀ {s2 : St}, Sim cx s2 a w ρ → interp out J (evOp P C s2 o fun v s' => evOps P C ops os (s'.put o.dst v) K) = some r → o.wp P a w (wpList P ops Q os) Q := by
      intro s2 h2 hr2
      refine evOp_sound hC h2 hr2 ?_
      intro v s' w' ρ' x hr3 h3 hv
      exact evOps_sound hC os (h3.put o.dst hv) hr3 hK
    have skip : ∀ {s2 : St}, Sim cx s2 a w ρ → interp out J (evOps P C ops os (s2.put o.dst .undef) K) = some r → wpList P ops Q os (a.put o.dst undef) w := by
      intro s2 h2 hr2
      exact evOps_sound hC os (h2.put o.dst (v := .undef) (rfl : V1 _ _ _ _ .undef undef)) hr2 hK
    unfold evOps at hr
    unfold wpList
    split at hr
    · rename_i hg
      rw [if_pos (by simp [Region.wanted, hg])]
      exact .inl (exec h hr)
    · rename_i j wt hg
      split at hr
      · rename_i d hgo
        have hd := h.fr d
        split at hr
        · rename_i b hb
          rw [hb] at hd
          have hdv := hd.bool
          have hy := yielded_bool hgo hdv
          have note : ∀ b', b = b' → Sim cx (s.put (some d) (.bool b')) a w ρ := fun b' e => h.note (by rw [hdv, e]; exact vr_bool _)
          cases wt with
          | true =>
            cases b with
            | true =>
              rw [if_pos (by simp [Region.wanted, hg, hy])]
              exact .inl (exec (note true rfl) hr)
            | false =>
              rw [if_neg (by simp [Region.wanted, hg, hy])]
              exact skip (note false rfl) hr
          | false =>
            cases b with
            | true =>
              rw [if_neg (by simp [Region.wanted, hg, hy])]
              exact skip (note true rfl) hr
            | false =>
              rw [if_pos (by simp [Region.wanted, hg, hy])]
              exact .inl (exec (note false rfl) hr)
        · rename_i hb
          rw [hb] at hd
          have hdv : a.tmps.getD d undef = undef := hd
          have hy := yielded_undef hgo hdv
          rw [if_neg (by simp [Region.wanted, hg, hy])]
          exact skip h hr
        · cases hr
      · cases hr
theorem sched_out {ops : Array Oper} : ∀ {n : Nat} {L : Array Bool} {l : List Nat}, sched ops n L = some l →
    (l = [] ∧ Region.ready .any ops L = []) ∨ ∃ i o l' n', l = i :: l' ∧ ops[i]? = some o ∧ sched ops n' (L.setIfInBounds i true) = some l' ∧
      ((reads o.op = true ∧ Region.free .any ops L i = true ∧ (Region.ready .any ops L).contains i = true) ∨ (isCall o.op = true ∧ Region.ready .any ops L = [i]))
  | 0, L, l, h => by
    simp only [sched] at h
    split at h
    · rename_i hr; cases h; exact .inl ⟨rfl, hr⟩
    · cases h
  | n + 1, L, l, h => by
    simp only [sched] at h
    split at h
    · rename_i hr; cases h; exact .inl ⟨rfl, hr⟩
    · rename_i r rs hr
      split at h
      · rename_i i hf
        obtain ⟨l', h1, rfl⟩ := Option.map_eq_some_iff.1 h
        have hp := List.find?_some hf
        have hm := List.mem_of_find?_eq_some hf
        simp only [Bool.and_eq_true] at hp
        obtain ⟨hp1, hp2⟩ := hp
        split at hp1
        · rename_i o ho
          exact .inr ⟨i, o, l', n, rfl, ho, h1, .inl ⟨hp1, hp2, by rw [hr]; simpa using hm⟩⟩
        · cases hp1
      · split at h
        · obtain ⟨l', h1, rfl⟩ := Option.map_eq_some_iff.1 h
          have hh : (match ops[r]? with | some o => isCall o.op | none => false) = true := by assumption
          cases ho : ops[r]? with
          | none => rw [ho] at hh; cases hh
          | some o =>
            rw [ho] at hh
            exact .inr ⟨r, o, l', n, rfl, ho, h1, .inr ⟨hh, hr⟩⟩
        · cases h
theorem wpAnyH_weaken {ops : Array Oper} {Q : Exit → Act → World → Prop} {S S' : World → Prop} (hS : ∀ w, S' w → S w) : ∀ (n : Nat) (L : Array Bool) (a : Act) (w : World), wpAnyH P .any ops Q S' n L a w → wpAnyH P .any ops Q S n L a w
  | 0, _, _, _, h => h
  | n + 1, _, _, _, h => ⟨h.1, fun i hi => wpOp_mono (fun a' w' h' => ⟨hS w' h'.1, wpAnyH_weaken hS n _ a' w' h'.2⟩) (h.2 i hi)⟩
/-- A region whose order is drawn may be gone through in one order: what only reads first, calls one by one. -/
theorem draw_ops (hC : TableOK P C) {ops : Array Oper} {Q : Exit → Act → World → Prop} (hsel : Region.noSelect ops = true) (hQ : ∀ c a w, ¬ Q (.panic c) a w) : ∀ (l : List Nat) (n : Nat) (L : Array Bool), sched ops n L = some l → ∀ {s : St} {a : Act} {w : World} {ρ : Nat → Value} {K : St → Tree}, Sim cx s a w ρ →
    interp out J (evOps P C ops (l.filterMap fun i => ops[i]?) s K) = some r → (∀ s' a' w' ρ', Sim cx s' a' w' ρ' → interp out J (K s') = some r → Q .normal a' w') → wpAnyH P .any ops Q (fun w' => Below w.heap.size w w') l.length L a w
  | [], n, L, hsc, s, a, w, ρ, K, h, hr, hK => by
    rcases sched_out hsc with ⟨_, h1⟩ | ⟨_, _, _, _, h1, _⟩
    · exact wpAnyH_done h1 (hK s a w ρ h hr) 0
    · cases h1
  | i :: l, n, L, hsc, s, a, w, ρ, K, h, hr, hK => by
    rcases sched_out hsc with ⟨h1, _⟩ | ⟨i', o, l', n', h1, ho, hsc', hkind⟩
    · cases h1
    · cases h1
      have ih := fun {s : St} {a : Act} {w : World} {ρ : Nat → Value} (h : Sim cx s a w ρ) (hr : interp out J (evOps P C ops (l.filterMap fun i => ops[i]?) s K) = some r) => draw_ops hC hsel hQ l n' _ hsc' h hr hK
      have e1 : ((i :: l).filterMap fun i => ops[i]?) = o :: (l.filterMap fun i => ops[i]?) := by simp [ho]
      rw [e1] at hr
      have exec : ∀ {s2 : St}, Sim cx s2 a w ρ → Region.wanted o (yielded ops a.tmps) = true → interp out J (evOp P C s2 o fun v s' => evOps P C ops (l.filterMap fun i => ops[i]?) (s'.put o.dst v) K) = some r →
          wpAnyH P .any ops Q (fun w' => Below w.heap.size w w') (l.length + 1) L a w := by
        intro s2 h2 hw hr2
        rcases hkind with ⟨hrd, hfree, hready⟩ | ⟨hcall, hready⟩
        · obtain ⟨x, hrun, hn⟩ := evOp_reads (N := fun a' w' => wpAnyH P .any ops Q (fun w'' => Below w'.heap.size w' w'') l.length (L.setIfInBounds i true) a' w') hrd h2 hr2 (by
            intro v s' w' ρ' x hr3 h3 hv
            exact ih (h3.put o.dst hv) hr3)
          exact wpAnyH_take ho hsel hfree hready (fun c a' w' hq => (hQ c _ w' hq).elim) (.inl ⟨hw, fun w' e => hrun w' e⟩) (Below.refl _ w) hn
        · refine wpAnyH_all hready (by simp) ?_
          intro j hj
          simp only [List.mem_singleton] at hj
          subst hj
          unfold wpOp
          simp only [ho, hw, if_true]
          refine .inl ?_
          obtain ⟨c, hc1, xo, hc2⟩ : ∃ c, o.op = .call c ∧ ∃ xo, c.callee = .value xo := by
            cases hop : o.op <;> rw [hop] at hcall <;> simp only [isCall] at hcall <;> try (cases hcall; done)
            rename_i c
            cases hcc : c.callee with
            | value f => exact ⟨c, rfl, f, hcc⟩
            | invoke _ _ => rw [hcc] at hcall; cases hcall
            | builtin _ => rw [hcc] at hcall; cases hcall
          refine call_sound hC hc1 hc2 h2 hr2 ?_
          intro v s' w' ρ' x hr3 h3 hv hb'
          refine ⟨hb', wpAnyH_weaken (S' := fun w'' => Below w'.heap.size w' w'') (fun w'' hb2 => hb'.trans (hb2.mono hb'.size)) _ _ _ _ (ih (h3.put o.dst hv) hr3)⟩
      have skip : ∀ {s2 : St}, Sim cx s2 a w ρ → Region.wanted o (yielded ops a.tmps) = false → interp out J (evOps P C ops (l.filterMap fun i => ops[i]?) (s2.put o.dst .undef) K) = some r →
          wpAnyH P .any ops Q (fun w' => Below w.heap.size w w') (l.length + 1) L a w := by
        intro s2 h2 hw hr2
        have hn := ih (h2.put o.dst (v := .undef) (rfl : V1 _ _ _ _ .undef undef)) hr2
        rcases hkind with ⟨hrd, hfree, hready⟩ | ⟨hcall, hready⟩
        · exact wpAnyH_take ho hsel hfree hready (fun c a' w' hq => (hQ c _ w' hq).elim) (.inr ⟨hw, rfl⟩) (Below.refl _ w) hn
        · refine wpAnyH_all hready (by simp) ?_
          intro j hj
          simp only [List.mem_singleton] at hj
          subst hj
          unfold wpOp
          simp only [ho, hw]
          exact ⟨Below.refl _ w, hn⟩
      unfold evOps at hr
      split at hr
      · rename_i hg
        exact exec h (by simp [Region.wanted, hg]) hr
      · rename_i j wt hg
        split at hr
        · rename_i d hgo
          have hd := h.fr d
          split at hr
          · rename_i b hb
            rw [hb] at hd
            have hdv := hd.bool
            have hy := yielded_bool hgo hdv
            have note : ∀ b', b = b' → Sim cx (s.put (some d) (.bool b')) a w ρ := fun b' e => h.note (by rw [hdv, e]; exact vr_bool _)
            cases wt with
            | true =>
              cases b with
              | true => exact exec (note true rfl) (by simp [Region.wanted, hg, hy]) hr
              | false => exact skip (note false rfl) (by simp [Region.wanted, hg, hy]) hr
            | false =>
              cases b with
              | true => exact skip (note true rfl) (by simp [Region.wanted, hg, hy]) hr
              | false => exact exec (note false rfl) (by simp [Region.wanted, hg, hy]) hr
          · rename_i hb
            rw [hb] at hd
            have hdv : a.tmps.getD d undef = undef := hd
            have hy := yielded_undef hgo hdv
            exact skip h (by simp [Region.wanted, hg, hy]) hr
          · cases hr
        · cases hr
/-! ### code -/
def Goes (P : Program) (f : FuncId) (todo : List Item) (a : Act) (w : World) (R : Value → World → Prop) : Prop :=
  ∀ (b : Frame) (cs : List Frame), b.fn = f → b.kind = .normal → ∃ v w' fr, R v w' ∧ Steps P (lone (b.at a todo) cs w) (lone fr cs w') ∧ fr.fn = f ∧ fr.leaving P w' (.returned v)
theorem Goes.step {f : FuncId} {todo todo' : List Item} {a' : Act} {R : Value → World → Prop} (hs : ∀ (b : Frame) (cs : List Frame), Go.step P (lone (b.at a todo) cs w) = .next (lone (b.at a' todo') cs w')) (h : Goes P f todo' a' w' R) : Goes P f todo a w R := by
  intro b cs hb hk
  obtain ⟨v, w2, fr, hR, hst, hfn, hl⟩ := h b cs hb hk
  exact ⟨v, w2, fr, hR, .head (hs b cs) hst, hfn, hl⟩
def occ (i : Nat) : List Item → List (List Item)
  | [] => []
  | .code c :: k => occC i c k ++ occ i k
  | .inLoop c :: k => (if 2 * rid c = i then [.inLoop c :: k] else []) ++ occC i c (.inLoop c :: k) ++ occ i k
  | _ :: k => occ i k
theorem occ_exit {i id : Nat} : ∀ {k k' : List Item}, exitTo id k = some k' → ∀ t ∈ occ i k', t ∈ occ i k
  | [], _, h, _, _ => by simp [exitTo] at h
  | x :: k, k', h, t, ht => by
    have tail : ∀ u, u ∈ occ i k → u ∈ occ i (x :: k) := by
      intro u hu
      cases x <;> simp only [occ, List.mem_append] <;> first | exact .inr hu | exact hu
    cases x with
    | inBlock id' =>
      simp only [exitTo] at h
      split at h
      · cases h; exact tail t ht
      · exact tail t (occ_exit h t ht)
    | _ => exact tail t (occ_exit (by simpa [exitTo] using h) t ht)
def resM (tmps : Array Value) : ResultVar → Sem Value
  | .tmp t => pure (tmps.getD t undef)
  | .cell x t => do loadVar t (← asAddr (tmps.getD x undef))
/-- The results of a function. -/
theorem res_sound (h : Sim cx s a w ρ) : ∀ (rs : List ResultVar) (vs : List V), rs.all (resOK P s) = true → rs.mapM (resV s) = some vs →
    ∃ xs, (rs.mapM (resM a.tmps)).run P w = .ok xs w ∧ xs.length = rs.length ∧ ∃ vx : List (V × Value), vx.map (·.1) = vs ∧ vx.map (·.2) = xs ∧ ∀ p ∈ vx, VR w (Own cx ρ s.mem) ρ s.mem p.1 p.2
  | [], vs, _, hm => by
    simp at hm
    subst hm
    exact ⟨[], rfl, rfl, [], rfl, rfl, fun _ h => by cases h⟩
  | rv :: rs, vs, hall, hm => by
    simp only [List.all_cons, Bool.and_eq_true] at hall
    simp only [List.mapM_cons, Option.bind_eq_bind, Option.pure_def] at hm
    cases hv : resV s rv with
    | none => rw [hv] at hm; cases hm
    | some v =>
      rw [hv] at hm
      simp only [Option.bind_some] at hm
      cases hvs : rs.mapM (resV s) with
      | none => rw [hvs] at hm; cases hm
      | some vs' =>
        rw [hvs] at hm
        cases hm
        obtain ⟨xs, hrun, hlen, vx, h1, h2, h3⟩ := res_sound h rs vs' hall.2 hvs
        have key : ∃ x, (resM a.tmps rv).run P w = .ok x w ∧ VR w (Own cx ρ s.mem) ρ s.mem v x := by
          cases rv with
          | tmp t =>
            simp only [resV] at hv
            cases hv
            exact ⟨_, rfl, h.fr t⟩
          | cell y t =>
            simp only [resV] at hv
            have hok := hall.1
            simp only [resOK, hv] at hok
            obtain ⟨b, off, us, e, hus, hc⟩ := h.deref hv (h.fr y)
            obtain ⟨x, hx, hvx⟩ := load_sound (P := P) (b := b) (off := off) hok hus
            have hx := hx w hc
            refine ⟨x, ?_, hvx⟩
            simp only [resM, Sem.run_bind, e, asAddr, Sem.run_pure, Result.andThen_ok, hx]
        obtain ⟨x, hx, hvx⟩ := key
        refine ⟨x :: xs, ?_, by simp [hlen], (v, x) :: vx, by simp [h1], by simp [h2], ?_⟩
        · rw [List.mapM_cons, Sem.run_bind, hx]
          simp only [Result.andThen_ok, Sem.run_bind, hrun]
          rfl
        · intro p hp
          rcases List.mem_cons.1 hp with e | hp
          · subst e; exact hvx
          · exact h3 p hp
/-- What a function leaves behind. -/
def Post (cx : Cx) (rt : List Ty) (z : dens rt) (v : Value) (w' : World) : Prop := ∃ ys, v = wrapVal ys ∧ Below cx.w0.heap.size cx.w0 w' ∧ RR w' cx.own rt z ys
theorem end_sound {fn : Func} {rt : List Ty} {J : Nat → St → Option (dens rt)} {z : dens rt} (h : Sim cx s a w ρ)
    (hr : interp (fun vs m => decs m rt vs) J (evRes P fn.results.toList s) = some z) :
    ∃ v, Post cx rt z v w ∧ (results fn a.tmps).run P w = .ok v w := by
  unfold evRes at hr
  split at hr
  · rename_i vs hok hm
    obtain ⟨xs, hrun, hlen, vx, h1, h2, h3⟩ := res_sound h _ _ hok hm
    have hd : decs s.mem rt vs = some z := hr
    rw [← h1] at hd
    have hrr := decs_sound (own' := cx.own) h.rows (fun b hb' => .inl hb') h3 (fun p hp d hdk b hb' hob => by
      have hkn := decs_known hd p.1 (List.mem_map.2 ⟨p, hp, rfl⟩)
      obtain ⟨E, t, l, hg⟩ := rowKey_is (h3 p hp) hkn hdk
      have := (h.ge d _ b hg hb').1
      have := h.fo b hob
      omega) hd
    rw [h2] at hrr
    refine ⟨wrapVal xs, ⟨xs, rfl, h.be, hrr⟩, ?_⟩
    have hres : results fn a.tmps = (fn.results.mapM (resM a.tmps)) >>= fun vs => pure (if h : vs.size = 1 then vs[0] else .tuple vs) := by
      unfold results
      congr 2
    rw [hres, Sem.run_bind, Array.mapM_eq_mapM_toList, Sem.run_map, hrun]
    simp only [Result.andThen_ok]
    match xs with
    | [] => rfl
    | [x] => rfl
    | x :: y :: r => rfl
  · cases hr
theorem run_sound (hC : TableOK P C) {f : FuncId} {fn : Func} {rt : List Ty} {J : Nat → St → Option (dens rt)} {z : dens rt} {cuts : List Nat} {td : Nat → List Item} (hf : P.funcs[f]? = some fn)
    (hJ : ∀ i s a w ρ, Sim cx s a w ρ → J i s = some z → Goes P f (td i) a w (Post cx rt z)) :
    ∀ (n : Nat) (fst : Bool) (todo : List Item) {s : St} {a : Act} {w : World} {ρ : Nat → Value}, Sim cx s a w ρ → (∀ i s, J i s = some z → ∀ t ∈ occ i todo, t = td i) →
      interp (fun vs m => decs m rt vs) J (run P C fn.results.toList cuts fst n todo s) = some z → Goes P f todo a w (Post cx rt z)
  | 0, _, _, _, _, _, _, _, _, hr => by cases hr
  | n + 1, fst, todo, s, a, w, ρ, h, hok, hr => by
    unfold run at hr
    have leave : ∀ (todo : List Item), (∀ (b : Frame) (cs : List Frame), ∃ t2, Go.step P (lone (b.at a todo) cs w) = .next (lone { b.at a t2 with mode := .returning } cs w)) →
        interp (fun vs m => decs m rt vs) J (evRes P fn.results.toList s) = some z → Goes P f todo a w (Post cx rt z) := by
      intro todo hs hr
      obtain ⟨v, hp, hres⟩ := end_sound h hr
      intro b cs hb hk
      obtain ⟨t2, hst⟩ := hs b cs
      exact ⟨v, w, { b.at a t2 with mode := .returning }, hp, .one hst, hb, rfl, h.df, hk, fn, by rw [show ({ b.at a t2 with mode := .returning } : Frame).fn = b.fn from rfl, hb]; exact hf, hres⟩
    split at hr
    · exact leave [] (fun b cs => ⟨[], step_end⟩) hr
    · rename_i c k
      have sub : ∀ todo', (∀ i t, t ∈ occ i todo' → t ∈ occ i (.code c :: k)) → ∀ i s, J i s = some z → ∀ t ∈ occ i todo', t = td i := fun todo' hs i s hj t ht => hok i s hj t (hs i t ht)
      split at hr
      · exact Goes.step (fun b cs => step_skip) (run_sound hC hf hJ n _ _ h (sub _ fun i t ht => by simp only [occ, List.mem_append]; exact .inr ht) hr)
      · refine Goes.step (fun b cs => step_seq) (run_sound hC hf hJ n _ _ h (sub _ fun i t ht => ?_) hr)
        simp only [occ, occC, List.mem_append] at ht ⊢
        rcases ht with ht | ht | ht
        · exact .inl (.inl ht)
        · exact .inl (.inr ht)
        · exact .inr ht
      · rename_i x p q
        cases hv : ev s x <;> rw [hv] at hr <;> try (cases hr; done)
        rename_i t
        have hx := h.ev x
        rw [hv] at hx
        refine Goes.step (fun b cs => step_cond hx.bool) ?_
        cases t with
        | true =>
          refine run_sound hC hf hJ n _ _ h (sub _ fun i t ht => ?_) hr
          simp only [occ, occC, List.mem_append] at ht ⊢
          rcases ht with ht | ht
          · exact .inl (.inl ht)
          · exact .inr ht
        | false =>
          refine run_sound hC hf hJ n _ _ h (sub _ fun i t ht => ?_) hr
          simp only [occ, occC, List.mem_append] at ht ⊢
          rcases ht with ht | ht
          · exact .inl (.inr ht)
          · exact .inr ht
      · rename_i id ops draw
        split at hr
        · have hj : J (2 * id + 1) s = some z := hr
          have := hok _ _ hj _ (by simp only [occ, occC, if_true]; exact List.mem_append_left _ (List.mem_singleton.2 rfl))
          rw [this]
          exact hJ _ _ _ _ _ h hj
        · intro b cs hb hk
          have hwp := evOps_sound (Q := fun e a' w' => match e with | .normal => Goes P f k a' w' (Post cx rt z) | _ => False) hC ops.toList h hr (fun s' a' w' ρ' h' hr' => run_sound hC hf hJ n _ _ h' (sub _ fun i t ht => by
            simp only [occ, List.mem_append]; exact .inr ht) hr')
          have hwp2 : wpOps P ops (fun e a' w' => match e with | .normal => Goes P f k a' w' (Post cx rt z) | _ => False) (List.range ops.size) a w := by
            rw [List.range_eq_range', ← Array.length_toList, wpOps_eq_wpList ops.toList 0 (by simp)]
            exact hwp
          obtain ⟨e, a', w', hq, harr⟩ := wp_ops _ a w hwp2 b k cs
          cases e <;> try (exact hq.elim)
          obtain ⟨v, w2, fr, hR, hst, hfn, hl⟩ := hq b cs hb hk
          exact ⟨v, w2, fr, hR, Steps.trans (.head step_region harr) hst, hfn, hl⟩
        · split at hr
          · rename_i l hl
            unfold drawOrder at hl
            split at hl
            · rename_i hcond
              simp only [Bool.and_eq_true] at hcond
              split at hl
              · rename_i l2 hsc
                split at hl
                · rename_i hlen
                  cases hl
                  intro b cs hb hk
                  have h1 : Sim cx s a { w with drawn := w.drawn + 1 } ρ := h.later ((Below.refl _ w).drew)
                  have hwp := draw_ops (Q := fun e a' w' => match e with | .normal => Goes P f k a' w' (Post cx rt z) | _ => False) hC hcond.2 (fun _ _ _ hq => hq) l _ _ hsc h1 hr (fun s' a' w' ρ' h' hr' => run_sound hC hf hJ n _ _ h' (sub _ fun i t ht => by
                    simp only [occ, List.mem_append]; exact .inr ht) hr')
                  rw [hlen] at hwp
                  obtain ⟨e, a', w', hq, harr⟩ := wp_region_held (id := id) hcond.1 hwp b k cs
                  cases e <;> try (exact hq.elim)
                  obtain ⟨v, w2, fr, hR, hst, hfn, hl⟩ := hq b cs hb hk
                  exact ⟨v, w2, fr, hR, Steps.trans harr hst, hfn, hl⟩
                · cases hl
              · cases hl
            · cases hl
          · cases hr
      · exact Goes.step (fun b cs => step_block) (run_sound hC hf hJ n _ _ h (sub _ fun i t ht => by
          simp only [occ, occC, List.mem_append] at ht ⊢; exact ht) hr)
      · rename_i body
        have hj : J (2 * rid body) s = some z := hr
        have := hok _ _ hj (.inLoop body :: k) (by simp [occ, occC])
        have hg := hJ _ _ _ _ _ h hj
        rw [← this] at hg
        intro b cs hb hk
        obtain ⟨v, w2, fr, hR, hst, hfn, hl⟩ := hg b cs hb hk
        obtain ⟨m, hm⟩ := hst
        cases m with
        | zero =>
          simp only [runN] at hm
          injection hm with hm
          have e1 : b.at a (.inLoop body :: k) = fr := by
            have := congrArg Machine.gs hm
            simp [lone] at this
            exact this
          have := hl.1
          rw [← e1] at this
          cases this
        | succ m =>
          refine ⟨v, w2, fr, hR, ⟨m + 1, ?_⟩, hfn, hl⟩
          simp only [runN, step_inLoop] at hm
          simp only [runN, step_loop]
          exact hm
      · rename_i id
        split at hr
        · rename_i k' he
          exact Goes.step (fun b cs => step_exit he) (run_sound hC hf hJ n _ _ h (sub _ fun i t ht => by
            simp only [occ, List.mem_append]; exact .inr (occ_exit he t ht)) hr)
        · cases hr
      · exact leave _ (fun b cs => ⟨_, step_ret⟩) hr
      · cases hr
    · rename_i id k
      exact Goes.step (fun b cs => step_inBlock) (run_sound hC hf hJ n _ _ h (fun i s hj t ht => hok i s hj t (by simpa [occ] using ht)) hr)
    · rename_i body k
      split at hr
      · refine Goes.step (fun b cs => step_inLoop) (run_sound hC hf hJ n _ _ h (fun i s hj t ht => hok i s hj t ?_) hr)
        simp only [occ, List.mem_append] at ht ⊢
        rcases ht with ht | (ht | ht) | ht
        · exact .inl (.inr ht)
        · exact .inl (.inl ht)
        · exact .inl (.inr ht)
        · exact .inr ht
      · have hj : J (2 * rid body) s = some z := hr
        have := hok _ _ hj (.inLoop body :: k) (by simp [occ])
        have hg := hJ _ _ _ _ _ h hj
        rw [← this] at hg
        exact hg
    · cases hr
end
end Go.Rf
