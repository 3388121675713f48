/- Calls; regions; code; whole functions: the evaluator is right. -/
import Derived.Test.YtapackaajegjnaaRfMp
namespace Go.Rf
open Go.RowKit (Below)
def RR (w : World) (own : Nat → Prop) : (ts : List Ty) → dens ts → List Value → Prop
  | [], _, xs => xs = []
  | [t], y, xs => ∃ x, xs = [x] ∧ TV w own t y x
  | t :: u :: ts, y, xs => ∃ x rest, xs = x :: rest ∧ TV w own t y.1 x ∧ RR w own (u :: ts) y.2 rest
def wrapVal : List Value → Value
  | [x] => x
  | xs => .tuple xs.toArray
/-- What a call of a function does, whether it is entered or answered at once. -/
def Does (P : Program) (f : FuncId) (xs : List Value) (w : World) (R : Value → World → Prop) : Prop :=
  ((callFunc f xs.toArray).run P w = .ok (.enter f xs.toArray) w ∧ Calls P f xs.toArray w fun e w' => ∃ v, e = .returned v ∧ R v w') ∨
  ∃ v w', (callFunc f xs.toArray).run P w = .ok (.value v) w' ∧ R v w'
def FnOK (P : Program) (e : Entry) : Prop :=
  ∀ (own : Nat → Prop) (w : World) (y : dens e.ps) (r : dens e.rt) (xs : List Value), e.f y = some r → (∀ b, own b → b < w.heap.size) → RR w own e.ps y xs →
    Does P e.id xs w fun v w' => ∃ ys, v = wrapVal ys ∧ Below w.heap.size w w' ∧ RR w' own e.rt r ys
def TableOK (P : Program) (C : List Entry) : Prop := ∀ e ∈ C, FnOK P e
section
variable {P : Program} {C : List Entry} {cx : Cx} {s s' s1 : St} {a : Act} {w w' : World} {ρ ρ' : Nat → Value} {R : Type} {out : List V → Mem → Option R} {J : Nat → St → Option R} {r : R}
  {o : Oper} {K : V → St → Tree} {N : Act → World → Prop} {Q : Exit → Act → World → Prop}
theorem findE_out {m : Mem} {vs : List V} : ∀ {C : List Entry} {f : Nat} {e : Entry} {y : dens e.ps}, findE m vs C f = some ⟨e, y⟩ → e ∈ C ∧ e.id = f ∧ decs m e.ps vs = some y
  | [], _, _, _, h => by cases h
  | x :: C, f, e, y, h => by
    simp only [findE] at h
    split at h
    · rename_i hx
      split at h
      · rename_i z hz; cases h; exact ⟨by simp, hx, hz⟩
      · obtain ⟨h1, h2⟩ := findE_out h; exact ⟨by simp [h1], h2⟩
    · obtain ⟨h1, h2⟩ := findE_out h; exact ⟨by simp [h1], h2⟩
theorem TV.of_dec {own own' : Nat → Prop} {m m0 : Mem} (hrow : ∀ d E t l, getM m d = some (.row E t l) → ∃ css, Row (DR w own t) l css ∧ css.length = l.length * t.size ∧
      ((ρ d = .slice none 0 0 ∧ l = []) ∨ ∃ b cap, ρ d = .slice (some ⟨b, 0, none⟩) l.length cap ∧ l.length ≤ cap ∧ b < w.heap.size ∧ Cells w b 0 css))
    (ho : ∀ b, own' b → own b) (hm : ∀ d o, getM m0 d = some o → getM m d = some o) {t : Ty} {v : V} {x : Value} {y : t.den} (hd : dec m0 t v = some y) (hv : VR w own ρ m v x)
    (hk : ∀ d, d ∈ rowKeys v → ∀ b, hb (ρ d) = some b → ¬ own' b) : TV w own' t y x := by
  have h1 := V1.of_VR hv (dec_known hd).1
  have plain : FR w own ρ m v [x] → t.isAgg = false → TV w own' t y x := by
    intro hf ha
    unfold TV
    rw [ha]
    exact dec_sound hrow ho hm hd hf hk
  have aggs : (∃ cs : List Value, x = .agg cs.toArray ∧ FR w own ρ m v cs) → t.isAgg = true → TV w own' t y x := by
    rintro ⟨cs, e, hf⟩ ha
    unfold TV
    rw [ha]
    exact ⟨cs, e, dec_sound hrow ho hm hd hf hk⟩
  cases t with
  | agg t => cases v <;> simp only [dec] at hd <;> first | (cases hd; done) | exact aggs h1 rfl
  | arr n t => cases v <;> simp only [dec] at hd <;> first | (cases hd; done) | exact aggs h1 rfl
  | int k => cases v <;> simp only [dec] at hd <;> first | (cases hd; done) | exact plain h1 rfl
  | bool => cases v <;> simp only [dec] at hd <;> first | (cases hd; done) | exact plain h1 rfl
  | str => cases v <;> simp only [dec] at hd <;> first | (cases hd; done) | exact plain h1 rfl
  | unit => cases v <;> simp only [dec] at hd <;> first | (cases hd; done) | exact plain h1 rfl
  | nilp => cases v <;> simp only [dec] at hd <;> first | (cases hd; done) | exact plain h1 rfl
  | fn f => cases v <;> simp only [dec] at hd <;> first | (cases hd; done) | exact plain h1 rfl
  | pair p q => cases v <;> simp only [dec] at hd <;> first | (cases hd; done) | exact plain h1 rfl
  | sl E t => cases v <;> simp only [dec] at hd <;> first | (cases hd; done) | exact plain h1 rfl
theorem RR.any {own own' : Nat → Prop} : ∀ {ts : List Ty} {y : dens ts} {xs : List Value}, ts.any Ty.refs = false → RR w own ts y xs → RR w' own' ts y xs
  | [], _, _, _, h => h
  | [t], y, xs, hr, ⟨x, e, h⟩ => by
    simp only [List.any_cons, List.any_nil, Bool.or_false] at hr
    refine ⟨x, e, ?_⟩
    unfold TV at h ⊢
    split at h
    · rename_i ha; rw [if_pos ha]; obtain ⟨cs, e, hd⟩ := h; exact ⟨cs, e, hd.any hr⟩
    · rename_i ha; rw [if_neg ha]; exact h.any hr
  | t :: u :: ts, y, xs, hr, ⟨x, rest, e, h, h2⟩ => by
    rw [List.any_cons, Bool.or_eq_false_iff] at hr
    refine ⟨x, rest, e, ?_, RR.any hr.2 h2⟩
    unfold TV at h ⊢
    split at h
    · rename_i ha; rw [if_pos ha]; obtain ⟨cs, e, hd⟩ := h; exact ⟨cs, e, hd.any hr.1⟩
    · rename_i ha; rw [if_neg ha]; exact h.any hr.1
theorem decs_sound {own own' : Nat → Prop} {m : Mem} (hrow : ∀ d E t l, getM m d = some (.row E t l) → ∃ css, Row (DR w own t) l css ∧ css.length = l.length * t.size ∧
      ((ρ d = .slice none 0 0 ∧ l = []) ∨ ∃ b cap, ρ d = .slice (some ⟨b, 0, none⟩) l.length cap ∧ l.length ≤ cap ∧ b < w.heap.size ∧ Cells w b 0 css))
    (ho : ∀ b, own' b → own b) {vx : List (V × Value)} (hv : ∀ p ∈ vx, VR w own ρ m p.1 p.2) (hk : ∀ p ∈ vx, ∀ d, d ∈ rowKeys p.1 → ∀ b, hb (ρ d) = some b → ¬ own' b) :
    ∀ {ts : List Ty} {y : dens ts}, decs m ts (vx.map (·.1)) = some y → RR w own' ts y (vx.map (·.2)) := by
  induction vx with
  | nil => intro ts y h; cases ts with
    | nil => exact rfl
    | cons t ts => cases ts <;> simp [decs] at h
  | cons p vx ih =>
    intro ts y h
    cases ts with
    | nil => simp [decs] at h
    | cons t ts => cases ts with
      | nil =>
        cases vx with
        | cons q qs => simp [decs] at h
        | nil =>
          simp only [List.map_cons, List.map_nil, decs] at h
          exact ⟨p.2, rfl, TV.of_dec hrow ho (fun _ _ h => h) h (hv p (by simp)) (hk p (by simp))⟩
      | cons u ts =>
        simp only [List.map_cons, decs] at h
        cases hd : dec m t p.1 with
        | none => rw [hd] at h; cases h
        | some z =>
          rw [hd] at h
          simp only [Option.bind_some] at h
          cases hds : decs m (u :: ts) (vx.map (·.1)) with
          | none => rw [hds] at h; cases h
          | some zs =>
            rw [hds] at h
            cases h
            exact ⟨p.2, vx.map (·.2), rfl, TV.of_dec hrow ho (fun _ _ h => h) hd (hv p (by simp)) (hk p (by simp)), ih (fun q hq => hv q (by simp [hq])) (fun q hq => hk q (by simp [hq])) hds⟩
set_option linter.unusedVariables false in
theorem RR.chain {own : Nat → Prop} {m : Mem} : ∀ {ts : List Ty} {y : dens ts} {xs : List Value}, RR w own ts y xs → TR w own ρ m (Rf.chain (encs ts y)) xs
  | [], _, _, h => h
  | [t], y, xs, ⟨x, e, h⟩ => ⟨x, [], e, h.enc, rfl⟩
  | t :: u :: ts, y, xs, ⟨x, rest, e, h, h2⟩ => ⟨x, rest, e, h.enc, RR.chain h2⟩
theorem RR.wrap {own : Nat → Prop} {m : Mem} : ∀ {ts : List Ty} {y : dens ts} {xs : List Value}, RR w own ts y xs → VR w own ρ m (wrapRes (encs ts y)) (wrapVal xs)
  | [], _, xs, h => by
    have : xs = [] := h
    subst this
    exact ⟨[], rfl, rfl⟩
  | [t], y, xs, ⟨x, e, h⟩ => by
    subst e
    exact VR.of_V1 h.enc (enc_notup t y)
  | t :: u :: ts, y, xs, h => by
    have h2 := h
    obtain ⟨x, rest, e, _, h3⟩ := h
    have hne : ∃ z zs, rest = z :: zs := by
      cases ts with
      | nil => obtain ⟨z, e, _⟩ := h3; exact ⟨z, [], e⟩
      | cons v ts => obtain ⟨z, zs, e, _⟩ := h3; exact ⟨z, zs, e⟩
    obtain ⟨z, zs, e2⟩ := hne
    have hw : wrapRes (encs (t :: u :: ts) y) = .tup (Rf.chain (encs (t :: u :: ts) y)) := by
      cases ts <;> rfl
    have hx : wrapVal xs = .tuple xs.toArray := by rw [e, e2]; rfl
    rw [hw, hx]
    exact ⟨xs, rfl, RR.chain h2⟩
theorem Sim.own_lt (h : Sim cx s a w ρ) : ∀ b, Own cx ρ s.mem b → b < w.heap.size := by
  rintro b (hx | ⟨d, o, hd, hb'⟩)
  · exact h.fo b hx
  · exact (h.ge d o b hd hb').2
/-- The world goes on, and nothing that was there turns. -/
theorem Sim.later (h : Sim cx s a w ρ) (hb : Below w.heap.size w w') : Sim cx s a w' ρ :=
  h.step rfl (.of hb) (fun b hlt _ => hb.block b hlt) (fun _ _ h => h) (fun d o b hd hb' => ⟨(h.ge d o b hd hb').1, Nat.lt_of_lt_of_le (h.ge d o b hd hb').2 hb.size⟩) h.no h.ds
    (fun d o hd => (h.ob d o hd).keep rfl (fun b hb' => hb.block b (h.ge d o b hd hb').2) (fun b hlt _ => hb.block b hlt) hb.size (fun _ _ h => h) (fun _ _ e _ => Keeps.refl _ _ e))
    (fun _ => .inr ⟨rfl, fun e _ => Keeps.refl _ _ e⟩)
theorem rowKey_is {own : Nat → Prop} {m : Mem} {k : Nat} {v : V} {x : Value} (hv : VR w own ρ m v x) (hn : (∀ c, v ≠ .tup c) ∧ v ≠ .any ∧ v ≠ .undef) (hk : k ∈ rowKeys v) : ∃ E t l, getM m k = some (.row E t l) := by
  have key : ∀ {v : V} {cs : List Value}, FR w own ρ m v cs → k ∈ rowKeys v → ∃ E t l, getM m k = some (.row E t l) := by
    intro v
    induction v with
    | pair p q ihp ihq =>
      rintro cs ⟨_, _, _, h1, h2⟩ hm
      simp only [rowKeys, List.mem_append] at hm
      exact hm.elim (ihp h1) (ihq h2)
    | agg p ih => intro cs h1 hm; exact ih h1 hm
    | rs e => rintro cs ⟨_, h1⟩ hm; simp [rowKeys] at hm; subst hm; exact h1
    | tup p _ => intro cs h1; exact h1.elim
    | _ => intro cs _ hm; simp [rowKeys] at hm
  have h1 := V1.of_VR hv hn.1
  cases v
  case any => exact (hn.2.1 rfl).elim
  case undef => exact (hn.2.2 rfl).elim
  case tup c => exact (hn.1 c rfl).elim
  case agg c => obtain ⟨cs, _, hf⟩ := h1; exact key hf hk
  case arr n t l => simp [rowKeys] at hk
  all_goals exact key h1 hk
theorem decs_known {m : Mem} : ∀ {ts : List Ty} {vs : List V} {y : dens ts}, decs m ts vs = some y → ∀ v ∈ vs, (∀ c, v ≠ .tup c) ∧ v ≠ .any ∧ v ≠ .undef
  | [], [], _, _, v, hv => by cases hv
  | [], _ :: _, _, h, _, _ => by simp [decs] at h
  | [_], [], _, h, _, _ => by simp [decs] at h
  | [t], [u], y, h, v, hv => by
    simp at hv
    subst hv
    exact dec_known (t := t) (m := m) (x := y) (by simpa [decs] using h)
  | [_], _ :: _ :: _, _, h, _, _ => by simp [decs] at h
  | _ :: _ :: _, [], _, h, _, _ => by simp [decs] at h
  | t :: u :: ts, p :: vs, y, h, v, hv => by
    simp only [decs] at h
    cases hd : dec m t p with
    | none => rw [hd] at h; cases h
    | some z =>
      rw [hd] at h
      simp only [Option.bind_some] at h
      cases hds : decs m (u :: ts) vs with
      | none => rw [hds] at h; cases h
      | some zs =>
        rcases List.mem_cons.1 hv with e | hv
        · subst e; exact dec_known hd
        · exact decs_known hds v hv
/-- What is owed behind a call: all that was is as it was. -/
def OwedB (cx : Cx) (a : Act) (w : World) (dst : Option Nat) {R : Type} (out : List V → Mem → Option R) (J : Nat → St → Option R) (r : R) (K : V → St → Tree) (N : Act → World → Prop) : Prop :=
  ∀ v s' w' ρ' x, interp out J (K v s') = some r → Sim cx s' a w' ρ' → VR w' (Own cx ρ' s'.mem) ρ' s'.mem v x → Below w.heap.size w w' → N (a.put dst x) w'
theorem call_sound (hC : TableOK P C) {c : Call} {xo : Operand} (ho : o.op = .call c) (hc : c.callee = .value xo) (h : Sim cx s a w ρ) (hr : interp out J (evOp P C s o K) = some r) (hK : OwedB cx a w o.dst out J r K N) : o.wp P a w N Q := by
  unfold evOp at hr
  rw [ho] at hr
  simp only [hc] at hr
  obtain ⟨f, hfn, hr⟩ : ∃ f, ev s xo = .fn f ∧ interp out J (evCall C s f c.args.toList K) = some r := by
    split at hr
    · rename_i f hf; exact ⟨f, hf, hr⟩
    · cases hr
  have hxo : a.eval xo = .func (.func f) #[] #[] := by
    have := h.ev xo
    rw [hfn] at this
    have e : [a.eval xo] = [Value.func (.func f) #[] #[]] := this
    injection e
  unfold evCall at hr
  split at hr
  · rename_i e y he
    obtain ⟨hmem, hid, hd⟩ := findE_out he
    · -- the values of the arguments
      have hvx : ∀ p ∈ (c.args.toList.map fun x => (ev s x, a.eval x)), VR w (Own cx ρ s.mem) ρ s.mem p.1 p.2 := by
        intro p hp
        obtain ⟨x, _, rfl⟩ := List.mem_map.1 hp
        exact h.ev x
      have e1 : (c.args.toList.map fun x => (ev s x, a.eval x)).map (·.1) = c.args.toList.map (ev s) := by simp
      have e2 : (c.args.toList.map fun x => (ev s x, a.eval x)).map (·.2) = c.args.toList.map a.eval := by simp
      have hkn := decs_known hd
      have hrun : (execOp a.eval o).run P w = (callFunc f (c.args.toList.map a.eval).toArray).run P w := by
        unfold execOp
        rw [ho]
        simp only [resolve, hc, hxo, Sem.run_bind, Deferred.ofValue, Sem.run_pure, Result.andThen_ok, invoke]
        have e3 : (#[] ++ c.args.map a.eval ++ #[] : Array Value) = (c.args.toList.map a.eval).toArray := by
          apply Array.toList_inj.1
          simp
        rw [e3]
      have go : ∀ (own' : Nat → Prop) (s2 : St), (∀ b, own' b → Own cx ρ s.mem b) → (∀ x ∈ c.args.toList, ∀ d ∈ rowKeys (ev s x), ∀ b, hb (ρ d) = some b → ¬ own' b) → Sim cx s2 a w ρ →
          (∀ w' z ys, Below w.heap.size w w' → RR w' own' e.rt z ys → RR w' (Own cx ρ s2.mem) e.rt z ys) →
          interp out J (.ask (e.f y) fun r => K (wrapRes (encs e.rt r)) s2) = some r → o.wp P a w N Q := by
        intro own' s2 hsub hkeys h2 hres hr2
        simp only [interp] at hr2
        cases hf : e.f y with
        | none => rw [hf] at hr2; cases hr2
        | some z =>
          rw [hf] at hr2
          simp only [Option.bind_some] at hr2
          have hargs : RR w own' e.ps y (c.args.toList.map a.eval) := by
            rw [← e2]
            refine decs_sound h.rows hsub hvx ?_ (by rw [e1]; exact hd)
            intro p hp d hdk
            obtain ⟨x, hx, rfl⟩ := List.mem_map.1 hp
            exact hkeys x hx d hdk
          have hdo := hC e hmem own' w y z _ hf (fun b hb' => h.own_lt b (hsub b hb')) hargs
          rw [hid] at hdo
          have finish : ∀ v w', (∃ ys, v = wrapVal ys ∧ Below w.heap.size w w' ∧ RR w' own' e.rt z ys) → N (a.put o.dst v) w' := by
            rintro v w' ⟨ys, rfl, hb', hrr⟩
            exact hK _ _ _ _ _ hr2 (h2.later hb') (hres w' z ys hb' hrr).wrap hb'
          unfold Oper.wp
          rcases hdo with ⟨hrun2, hcalls⟩ | ⟨v, w', hrun2, hpost⟩
          · rw [hrun, hrun2]
            refine hcalls.mono ?_
            rintro en w' ⟨v, rfl, hpost⟩
            exact finish v w' hpost
          · rw [hrun, hrun2]
            exact finish v w' hpost
      cases hrefs : e.rt.any Ty.refs with
      | true =>
        rw [hrefs] at hr
        split at hr
        · rename_i s2 hs2
          obtain ⟨h2, _, hown2, hks⟩ := Sim.freezeAll _ h hs2
          refine go (Own cx ρ s2.mem) s2 hown2 ?_ h2 (fun _ _ _ _ hrr => hrr) hr
          intro x hx d hdk b hb' hob
          obtain ⟨E, t, l, hg⟩ := rowKey_is (h.ev x) (hkn _ (List.mem_map.2 ⟨x, hx, rfl⟩)) hdk
          exact hks d (List.mem_flatMap.2 ⟨x, hx, hdk⟩) E t l hg b hb' hob
        · cases hr
      | false =>
        rw [hrefs] at hr
        simp only at hr
        refine go (fun b => Own cx ρ s.mem b ∧ ∀ x ∈ c.args.toList, ∀ d ∈ rowKeys (ev s x), hb (ρ d) ≠ some b) s (fun b hb' => hb'.1) ?_ h (fun w' z ys _ hrr => hrr.any hrefs) hr
        intro x hx d hdk b hb' hob
        exact hob.2 x hx d hdk hb'
  · cases hr
/-! ### every operation -/
theorem evOp_sound (hC : TableOK P C) (h : Sim cx s a w ρ) (hr : interp out J (evOp P C s o K) = some r) (hK : Owed cx a o.dst out J r K N) : o.wp P a w N Q := by
  have hr0 := hr
  unfold evOp at hr
  cases ho : o.op <;> rw [ho] at hr <;> simp only at hr <;> try (cases hr; done)
  case move x => exact (move_sound (B := fun _ => False) (.inl ho) h hr0 hK).wp
  case assign x => exact (move_sound (B := fun _ => False) (.inr ho) h hr0 hK).wp
  case pick => exact (pick_sound (B := fun _ => False) ho h hr0 hK).wp
  case alloc => exact alloc_sound ho h hr0 hK
  case box => exact box_sound ho h hr0 hK
  case build => exact (build_sound (B := fun _ => False) ho h hr0 hK).wp
  case buildSlice => exact buildSlice_sound ho h hr0 hK
  case load => exact (load_op (B := fun _ => False) (fun _ _ h => h) ho h hr0 hK).wp
  case store => exact store_op ho h hr0 (fun v s' w' ρ' x h1 h2 h3 _ => hK v s' w' ρ' x h1 h2 h3)
  case nilCheck => exact (nilCheck_sound (B := fun _ => False) ho h hr0 hK).wp
  case binOp => exact (binOp_sound (B := fun _ => False) ho h hr0 hK).wp
  case unOp => exact (unOp_sound (B := fun _ => False) ho h hr0 hK).wp
  case convert => exact (convert_sound (B := fun _ => False) (fun _ h => h) ho h hr0 hK).wp
  case makeSlice => exact makeSlice_sound ho h hr0 hK
  case makeMap => exact makeMap_sound ho h hr0 hK
  case lookup => exact lookup_sound ho h hr0 hK
  case mapUpdate => exact mapUpdate_sound (.inl ho) h hr0 hK
  case insert => exact mapUpdate_sound (.inr ho) h hr0 hK
  case slice => exact (slice_sound (B := fun _ => False) ho h hr0 hK).wp
  case fieldAddr => exact (fieldAddr_sound (B := fun _ => False) ho h hr0 hK).wp
  case field => exact (field_sound (B := fun _ => False) ho h hr0 hK).wp
  case indexAddr => exact (indexAddr_sound (B := fun _ => False) ho h hr0 hK).wp
  case index => exact (index_sound (B := fun _ => False) ho h hr0 hK).wp
  case extract => exact (extract_sound (B := fun _ => False) ho h hr0 hK).wp
  case call c =>
    cases hc : c.callee with
    | value f => exact call_sound hC ho hc h hr0 (fun v s' w' ρ' x h1 h2 h3 _ => hK v s' w' ρ' x h1 h2 h3)
    | invoke _ _ => rw [hc] at hr; cases hr
    | builtin b =>
      rw [hc] at hr
      cases b <;> simp only at hr <;> try (cases hr; done)
      case len => exact (len_sound (B := fun _ => False) (fun _ h => h) ho hc h hr0 hK).wp
      case append => exact append_sound ho hc h hr0 hK
      case delete => exact delete_sound ho hc h hr0 hK
      case max => exact (minmax_op (B := fun _ => False) (mx := true) ho hc h hr hK).wp
      case min => exact (minmax_op (B := fun _ => False) (mx := false) ho hc h hr hK).wp
/-- An operation that only reads leaves the world as it is. -/
theorem evOp_reads {B : Nat → Prop} (hL : ∀ T x, o.op = .load T x → ∀ ad, a.eval x = .pointer (some ad) → ¬ B ad.block) (hE : heapy o.op = true → ∀ b, ¬ B b) (hro : reads o.op = true) (h : Sim cx s a w ρ) (hr : interp out J (evOp P C s o K) = some r) (hK : Owed cx a o.dst out J r K N) : Ran P B o a w N := by
  have hr0 := hr
  unfold evOp at hr
  cases ho : o.op <;> rw [ho] at hr hro <;> simp only [reads] at hro <;> try (cases hro; done)
  all_goals simp only at hr
  case move x => exact move_sound (.inl ho) h hr0 hK
  case assign x => exact move_sound (.inr ho) h hr0 hK
  case pick => exact pick_sound ho h hr0 hK
  case load => exact load_op (hL _ _ ho) ho h hr0 hK
  case nilCheck => exact nilCheck_sound ho h hr0 hK
  case binOp => exact binOp_sound ho h hr0 hK
  case unOp => exact unOp_sound ho h hr0 hK
  case convert => exact convert_sound (hE (by rw [ho]; rfl)) ho h hr0 hK
  case slice => exact slice_sound ho h hr0 hK
  case fieldAddr => exact fieldAddr_sound ho h hr0 hK
  case field => exact field_sound ho h hr0 hK
  case indexAddr => exact indexAddr_sound ho h hr0 hK
  case index => exact index_sound ho h hr0 hK
  case extract => exact extract_sound ho h hr0 hK
  case build => exact build_sound ho h hr0 hK
  case call c =>
    cases hc : c.callee with
    | value f => rw [hc] at hro; cases hro
    | invoke _ _ => rw [hc] at hro; cases hro
    | builtin b =>
      rw [hc] at hr hro
      cases b <;> simp only at hr hro <;> try (cases hro; done)
      case len => exact len_sound (hE (by rw [ho]; simp [heapy, hc])) ho hc h hr0 hK
      case max => exact minmax_op (mx := true) ho hc h hr hK
      case min => exact minmax_op (mx := false) ho hc h hr hK
end
end Go.Rf
