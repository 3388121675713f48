/- Calls; regions; code; whole functions: the evaluator is right. -/
import Derived.Test.YthdddaikdiaijaaDoorRfOb
namespace Go.Rf
open Go.RowKit (Below)
def RR (w : World) (own : Nat → Prop) : (ts : List Ty) → dens ts → List Value → Prop
  | [], _, xs => xs = []
  | [t], y, xs => ∃ x, xs = [x] ∧ TV w own t y x
  | t :: u :: ts, y, xs => ∃ x rest, xs = x :: rest ∧ TV w own t y.1 x ∧ RR w own (u :: ts) y.2 rest
def FnOK (P : Program) (W0 : World) (e : Entry) : Prop :=
  ∀ (own : Nat → Prop) (w : World) (y : dens e.ps) (r : dens e.rt) (xs : List Value), e.f y = some r → Below W0.heap.size W0 w → (∀ b, own b → b < w.heap.size) → RR w own e.ps y xs →
    Does P e.id xs w fun v w' => ∃ ys, v = wrapVal ys ∧ Below w.heap.size w w' ∧ RR w' own e.rt r ys
def TableOK (P : Program) (W0 : World) (C : Tab) : Prop := (∀ e ∈ C.es, FnOK P W0 e) ∧ ∀ e ∈ C.os, OOK P W0 e
/-- A table that is right behind a world, for a call behind it. -/
def TabAt (P : Program) (W0 : World) (cx : Cx) (C : Tab) : Prop := TableOK P W0 C ∧ cx.base W0
/-- Where the call has come to is behind that world too. -/
theorem Cx.base.at {cx : Cx} {W0 : World} (h : cx.base W0) {w : World} (hb : Bel cx.ok cx.w0 w) : Below W0.heap.size W0 w := by
  obtain ⟨h1, h2⟩ := h
  refine ⟨hb.os.trans h1.os, hb.tape.trans h1.tape, hb.output.trans h1.output, Nat.le_trans h1.size hb.size, fun k hk => (hb.block k (Nat.lt_of_lt_of_le hk h1.size) ?_).trans (h1.block k hk)⟩
  rintro (h3 | h3)
  · have := h1.size; omega
  · have := h2 k h3; omega
theorem Cx.base.ok {cx : Cx} {W0 : World} (h : cx.base W0) {b : Nat} (hb : cx.ok b) : W0.heap.size ≤ b := by
  rcases hb with h3 | h3
  · exact Nat.le_trans h.1.size h3
  · exact h.2 b h3
section
variable {P : Program} {C : Tab} {cx : Cx} {s s' s1 : St} {a : Act} {w w' : World} {ρ ρ' : Nat → Value} {R : Type} {out : List V → Mem → Option R} {J : Nat → St → Option R} {r : R}
  {o : Oper} {K : V → St → Tree} {N : Act → World → Prop} {Q : Exit → Act → World → Prop}
theorem findE_out {m : Mem} {vs : List V} : ∀ {C : List Entry} {f : Nat} {e : Entry} {y : dens e.ps}, findE m vs C f = some ⟨e, y⟩ → e ∈ C ∧ e.id = f ∧ decs m e.ps vs = some y
  | [], _, _, _, h => by cases h
  | x :: C, f, e, y, h => by
    simp only [findE] at h
    split at h
    · rename_i hx
      split at h
      · rename_i z hz; cases h; exact ⟨by simp, hx, hz⟩
      · obtain ⟨h1, h2⟩ := findE_out h; exact ⟨by simp [h1], h2⟩
    · obtain ⟨h1, h2⟩ := findE_out h; exact ⟨by simp [h1], h2⟩
theorem TV.of_dec {own own' : Nat → Prop} {m m0 : Mem} (hrow : ∀ d E t l, getM m d = some (.row E t l) → ∃ css, Row (DR w own t) l css ∧ css.length = l.length * t.size ∧
      ((ρ d = .slice none 0 0 ∧ l = []) ∨ ∃ b cap, ρ d = .slice (some ⟨b, 0, none⟩) l.length cap ∧ l.length ≤ cap ∧ b < w.heap.size ∧ Cells w b 0 css))
    (ho : ∀ b, own' b → own b) (hm : ∀ d o, getM m0 d = some o → getM m d = some o) {t : Ty} {v : V} {x : Value} {y : t.den} (hd : dec m0 t v = some y) (hv : VR w own ρ m v x)
    (hk : ∀ d, d ∈ rowKeys v → ∀ b, hb (ρ d) = some b → ¬ own' b) : TV w own' t y x := by
  have h1 := V1.of_VR hv (dec_known hd).1
  have plain : FR w own ρ m v [x] → t.isAgg = false → TV w own' t y x := by
    intro hf ha
    unfold TV
    rw [ha]
    exact dec_sound hrow ho hm hd hf hk
  have aggs : (∃ cs : List Value, x = .agg cs.toArray ∧ FR w own ρ m v cs) → t.isAgg = true → TV w own' t y x := by
    rintro ⟨cs, e, hf⟩ ha
    unfold TV
    rw [ha]
    exact ⟨cs, e, dec_sound hrow ho hm hd hf hk⟩
  cases t with
  | agg t => cases v <;> simp only [dec] at hd <;> first | (cases hd; done) | exact aggs h1 rfl
  | arr n t => cases v <;> simp only [dec] at hd <;> first | (cases hd; done) | exact aggs h1 rfl
  | int k => cases v <;> simp only [dec] at hd <;> first | (cases hd; done) | exact plain h1 rfl
  | bool => cases v <;> simp only [dec] at hd <;> first | (cases hd; done) | exact plain h1 rfl
  | str => cases v <;> simp only [dec] at hd <;> first | (cases hd; done) | exact plain h1 rfl
  | unit => cases v <;> simp only [dec] at hd <;> first | (cases hd; done) | exact plain h1 rfl
  | nilp => cases v <;> simp only [dec] at hd <;> first | (cases hd; done) | exact plain h1 rfl
  | fn f => cases v <;> simp only [dec] at hd <;> first | (cases hd; done) | exact plain h1 rfl
  | ifc => cases v <;> simp only [dec] at hd <;> first | (cases hd; done) | exact plain h1 rfl
  | pair p q => cases v <;> simp only [dec] at hd <;> first | (cases hd; done) | exact plain h1 rfl
  | sl E t => cases v <;> simp only [dec] at hd <;> first | (cases hd; done) | exact plain h1 rfl
theorem RR.any {own own' : Nat → Prop} : ∀ {ts : List Ty} {y : dens ts} {xs : List Value}, ts.any Ty.refs = false → RR w own ts y xs → RR w' own' ts y xs
  | [], _, _, _, h => h
  | [t], y, xs, hr, ⟨x, e, h⟩ => by
    simp only [List.any_cons, List.any_nil, Bool.or_false] at hr
    refine ⟨x, e, ?_⟩
    unfold TV at h ⊢
    split at h
    · rename_i ha; rw [if_pos ha]; obtain ⟨cs, e, hd⟩ := h; exact ⟨cs, e, hd.any hr⟩
    · rename_i ha; rw [if_neg ha]; exact h.any hr
  | t :: u :: ts, y, xs, hr, ⟨x, rest, e, h, h2⟩ => by
    rw [List.any_cons, Bool.or_eq_false_iff] at hr
    refine ⟨x, rest, e, ?_, RR.any hr.2 h2⟩
    unfold TV at h ⊢
    split at h
    · rename_i ha; rw [if_pos ha]; obtain ⟨cs, e, hd⟩ := h; exact ⟨cs, e, hd.any hr.1⟩
    · rename_i ha; rw [if_neg ha]; exact h.any hr.1
theorem decs_sound {own own' : Nat → Prop} {m : Mem} (hrow : ∀ d E t l, getM m d = some (.row E t l) → ∃ css, Row (DR w own t) l css ∧ css.length = l.length * t.size ∧
      ((ρ d = .slice none 0 0 ∧ l = []) ∨ ∃ b cap, ρ d = .slice (some ⟨b, 0, none⟩) l.length cap ∧ l.length ≤ cap ∧ b < w.heap.size ∧ Cells w b 0 css))
    (ho : ∀ b, own' b → own b) {vx : List (V × Value)} (hv : ∀ p ∈ vx, VR w own ρ m p.1 p.2) (hk : ∀ p ∈ vx, ∀ d, d ∈ rowKeys p.1 → ∀ b, hb (ρ d) = some b → ¬ own' b) :
    ∀ {ts : List Ty} {y : dens ts}, decs m ts (vx.map (·.1)) = some y → RR w own' ts y (vx.map (·.2)) := by
  induction vx with
  | nil => intro ts y h; cases ts with
    | nil => exact rfl
    | cons t ts => cases ts <;> simp [decs] at h
  | cons p vx ih =>
    intro ts y h
    cases ts with
    | nil => simp [decs] at h
    | cons t ts => cases ts with
      | nil =>
        cases vx with
        | cons q qs => simp [decs] at h
        | nil =>
          simp only [List.map_cons, List.map_nil, decs] at h
          exact ⟨p.2, rfl, TV.of_dec hrow ho (fun _ _ h => h) h (hv p (by simp)) (hk p (by simp))⟩
      | cons u ts =>
        simp only [List.map_cons, decs] at h
        cases hd : dec m t p.1 with
        | none => rw [hd] at h; cases h
        | some z =>
          rw [hd] at h
          simp only [Option.bind_some] at h
          cases hds : decs m (u :: ts) (vx.map (·.1)) with
          | none => rw [hds] at h; cases h
          | some zs =>
            rw [hds] at h
            cases h
            exact ⟨p.2, vx.map (·.2), rfl, TV.of_dec hrow ho (fun _ _ h => h) hd (hv p (by simp)) (hk p (by simp)), ih (fun q hq => hv q (by simp [hq])) (fun q hq => hk q (by simp [hq])) hds⟩
set_option linter.unusedVariables false in
theorem RR.chain {own : Nat → Prop} {m : Mem} : ∀ {ts : List Ty} {y : dens ts} {xs : List Value}, RR w own ts y xs → TR w own ρ m (Rf.chain (encs ts y)) xs
  | [], _, _, h => h
  | [t], y, xs, ⟨x, e, h⟩ => ⟨x, [], e, h.enc, rfl⟩
  | t :: u :: ts, y, xs, ⟨x, rest, e, h, h2⟩ => ⟨x, rest, e, h.enc, RR.chain h2⟩
theorem RR.wrap {own : Nat → Prop} {m : Mem} : ∀ {ts : List Ty} {y : dens ts} {xs : List Value}, RR w own ts y xs → VR w own ρ m (wrapRes (encs ts y)) (wrapVal xs)
  | [], _, xs, h => by
    have : xs = [] := h
    subst this
    exact ⟨[], rfl, rfl⟩
  | [t], y, xs, ⟨x, e, h⟩ => by
    subst e
    exact VR.of_V1 h.enc (enc_notup t y)
  | t :: u :: ts, y, xs, h => by
    have h2 := h
    obtain ⟨x, rest, e, _, h3⟩ := h
    have hne : ∃ z zs, rest = z :: zs := by
      cases ts with
      | nil => obtain ⟨z, e, _⟩ := h3; exact ⟨z, [], e⟩
      | cons v ts => obtain ⟨z, zs, e, _⟩ := h3; exact ⟨z, zs, e⟩
    obtain ⟨z, zs, e2⟩ := hne
    have hw : wrapRes (encs (t :: u :: ts) y) = .tup (Rf.chain (encs (t :: u :: ts) y)) := by
      cases ts <;> rfl
    have hx : wrapVal xs = .tuple xs.toArray := by rw [e, e2]; rfl
    rw [hw, hx]
    have hcl : isClo (Rf.chain (encs (t :: u :: ts) y)) = none := by
      cases ts <;> exact isClo_pair (enc_noundef _ _)
    exact ⟨xs, by unfold tupVal; rw [hcl], RR.chain h2⟩
theorem Sim.own_lt (h : Sim cx s a w ρ) : ∀ b, Own cx ρ s.mem b → b < w.heap.size := by
  rintro b (hx | ⟨d, o, hd, hb'⟩)
  · exact h.fo b hx
  · exact (h.ge d o b hd hb').2
/-- The world goes on, and nothing that was there turns. -/
theorem Sim.later (h : Sim cx s a w ρ) (hb : Below w.heap.size w w') : Sim cx s a w' ρ :=
  h.step rfl (.of hb) (fun b hlt _ => hb.block b hlt) (fun _ _ h => h) (fun d o b hd hb' => ⟨(h.ge d o b hd hb').1, Nat.lt_of_lt_of_le (h.ge d o b hd hb').2 hb.size⟩) h.no h.ds
    (fun d o hd => (h.ob d o hd).keep rfl (fun b hb' => hb.block b (h.ge d o b hd hb').2) (fun b hlt _ => hb.block b hlt) hb.size (fun _ _ h => h) (fun _ _ e _ => Keeps.refl _ _ e)) h.pn
    (fun _ => .inr ⟨rfl, fun e _ => Keeps.refl _ _ e⟩)
theorem rowKey_is {own : Nat → Prop} {m : Mem} {k : Nat} {v : V} {x : Value} (hv : VR w own ρ m v x) (hn : (∀ c, v ≠ .tup c) ∧ v ≠ .any ∧ v ≠ .undef) (hk : k ∈ rowKeys v) : ∃ E t l, getM m k = some (.row E t l) := by
  have key : ∀ {v : V} {cs : List Value}, FR w own ρ m v cs → k ∈ rowKeys v → ∃ E t l, getM m k = some (.row E t l) := by
    intro v
    induction v with
    | pair p q ihp ihq =>
      rintro cs ⟨_, _, _, h1, h2⟩ hm
      simp only [rowKeys, List.mem_append] at hm
      exact hm.elim (ihp h1) (ihq h2)
    | agg p ih => intro cs h1 hm; exact ih h1 hm
    | rs e => rintro cs ⟨_, h1⟩ hm; simp [rowKeys] at hm; subst hm; exact h1
    | tup p _ => intro cs h1; exact h1.elim
    | _ => intro cs _ hm; simp [rowKeys] at hm
  have h1 := V1.of_VR hv hn.1
  cases v
  case any => exact (hn.2.1 rfl).elim
  case undef => exact (hn.2.2 rfl).elim
  case tup c => exact (hn.1 c rfl).elim
  case agg c => obtain ⟨cs, _, hf⟩ := h1; exact key hf hk
  case arr n t l => simp [rowKeys] at hk
  all_goals exact key h1 hk
theorem decs_known {m : Mem} : ∀ {ts : List Ty} {vs : List V} {y : dens ts}, decs m ts vs = some y → ∀ v ∈ vs, (∀ c, v ≠ .tup c) ∧ v ≠ .any ∧ v ≠ .undef
  | [], [], _, _, v, hv => by cases hv
  | [], _ :: _, _, h, _, _ => by simp [decs] at h
  | [_], [], _, h, _, _ => by simp [decs] at h
  | [t], [u], y, h, v, hv => by
    simp at hv
    subst hv
    exact dec_known (t := t) (m := m) (x := y) (by simpa [decs] using h)
  | [_], _ :: _ :: _, _, h, _, _ => by simp [decs] at h
  | _ :: _ :: _, [], _, h, _, _ => by simp [decs] at h
  | t :: u :: ts, p :: vs, y, h, v, hv => by
    simp only [decs] at h
    cases hd : dec m t p with
    | none => rw [hd] at h; cases h
    | some z =>
      rw [hd] at h
      simp only [Option.bind_some] at h
      cases hds : decs m (u :: ts) vs with
      | none => rw [hds] at h; cases h
      | some zs =>
        rcases List.mem_cons.1 hv with e | hv
        · subst e; exact dec_known hd
        · exact decs_known hds v hv
/-- What is owed behind a call: all that was is as it was. -/
def OwedB (cx : Cx) (a : Act) (w : World) (dst : Option Nat) {R : Type} (out : List V → Mem → Option R) (J : Nat → St → Option R) (r : R) (K : V → St → Tree) (N : Act → World → Prop) : Prop :=
  ∀ v s' w' ρ' x, interp out J (K v s') = some r → Sim cx s' a w' ρ' → VR w' (Own cx ρ' s'.mem) ρ' s'.mem v x → Below w.heap.size w w' → N (a.put dst x) w'
theorem args_fr {own : Nat → Prop} {m : Mem} {tm : Array Value} : ∀ {vx : List (V × Value)} {k : Nat} {f : Fr}, (∀ p ∈ vx, VR w own ρ m p.1 p.2) → (∀ j, j < vx.length → tm.getD (k + j) undef = (vx.map (·.2)).getD j undef) →
    (∀ t, VR w own ρ m (f.get t) (tm.getD t undef)) → ∀ t, VR w own ρ m ((((vx.map (·.1)).zipIdx k).foldl (fun f x => f.set x.2 x.1) f).get t) (tm.getD t undef)
  | [], _, _, _, _, hf => by simpa using hf
  | p :: vx, k, f, hv, hx, hf => by
    simp only [List.map_cons, List.zipIdx_cons, List.foldl_cons]
    refine args_fr (vx := vx) (k := k + 1) (fun q hq => hv q (by simp [hq])) (fun j hj => ?_) ?_
    · have := hx (j + 1) (by simp; omega)
      rw [show k + 1 + j = k + (j + 1) by omega, this]
      rfl
    · intro t
      rcases Fr.get_set f k t p.1 with ⟨e, h1 | h1⟩ | ⟨_, h1⟩
      · rw [h1, e]
        have := hx 0 (by simp)
        rw [Nat.add_zero] at this
        rw [this]
        exact hv p (by simp)
      · rw [h1]; trivial
      · rw [h1]; exact hf t
theorem act_of {n : Nat} {xs : List Value} (h : xs.length ≤ n) : (actOf n xs).tmps.size = n ∧ (∀ j, j < xs.length → (actOf n xs).tmps.getD j undef = xs.getD j undef) := by
  refine ⟨by simp [actOf]; omega, fun j hj => ?_⟩
  simp [actOf, Array.getD_eq_getD_getElem?, Array.getElem?_append, hj, List.getD]
theorem rens_get : ∀ (l : List (Nat × Nat)) (s : St) (k : Nat) (ob : Obj), getM (s.rens l).mem k = some ob → ∃ ob', getM s.mem (back l k) = some ob'
  | [], _, _, ob, h => ⟨ob, h⟩
  | (d, e) :: l, s, k, ob, h => by
    obtain ⟨o1, h1⟩ := rens_get l (s.ren d e) k ob h
    have : getM (renM d e s.mem) (back l k) = some o1 := h1
    rw [getM_ren'] at this
    cases ho : getM s.mem (sw d e (back l k)) with
    | none => rw [ho] at this; cases this
    | some o2 => exact ⟨o2, ho⟩
theorem getM_of_mem : ∀ {m : Mem} {x : Nat × Obj}, x ∈ m → ∃ ob, getM m x.1 = some ob
  | (d, o) :: m, x, h => by
    simp only [getM]
    by_cases hd : d = x.1
    · exact ⟨o, by rw [if_pos hd]⟩
    · rw [if_neg hd]
      rcases List.mem_cons.1 h with e | h
      · exact (hd (by rw [e])).elim
      · exact getM_of_mem h
  | [], _, h => by cases h
theorem TR.rn {own own' : Nat → Prop} {m m3 : Mem} {f : Nat → Nat} {ρ3 : Nat → Value} (ho : ∀ b, own' b → own b) (hm : ∀ k ob, getM m k = some ob → getM m3 (f k) = some (ob.rn f) ∧ ρ3 (f k) = ρ k) :
    ∀ {vs : List V} {ys : List Value}, vs.length = ys.length → (∀ j, j < ys.length → V1 w own ρ m (vs.getD j .any) (ys.getD j undef)) → TR w own' ρ3 m3 (Rf.chain (vs.map (·.rn f))) ys
  | [], [], _, _ => rfl
  | [], _ :: _, h, _ => by simp at h
  | _ :: _, [], h, _ => by simp at h
  | v :: vs, y :: ys, h, hv => ⟨y, ys, rfl, (hv 0 (by simp)).rn ho hm, TR.rn ho hm (by simpa using h) (fun j hj => hv (j + 1) (by simp; omega))⟩
theorem wrapRes_two : ∀ {vs : List V}, 2 ≤ vs.length → wrapRes vs = .tup (Rf.chain vs)
  | [], h => by simp at h
  | [_], h => by simp at h
  | _ :: _ :: _, _ => rfl
/-- One way in which a call ends. -/
theorem evOut1_sound {cx' : Cx} {inp : List (Nat × OSh)} {keep : List Nat} {D : List Nat} {l : List (Nat × Nat)} {sR : St} {h1 : Shape} {x' : slotsDen h1.slots} {y' : memDen h1.mem} {ρc : Nat → Value} {v : Value} (h : Sim cx s a w ρ)
    (hr : interp out J (evOut1 s inp keep D l sR.mem h1.n (encSt h1 x' y') K) = some r) (hK : Owed cx a o.dst out J r K N) (hw0 : cx'.w0 = w)
    (hown : ∀ b, cx'.own b ↔ cx.own b ∨ ∃ d ob, D.contains d = false ∧ getM s.mem d = some ob ∧ hb (ρ d) = some b)
    (hmine : ∀ b, cx'.mine b → ∃ d ob, D.contains d = true ∧ getM s.mem d = some ob ∧ hb (ρ d) = some b)
    (hpin : ∀ d, pinned inp d = true → cx'.pin d = some (ρc d)) (hkeep : ∀ d, keep.contains d = true → cx'.keep d = some (ρc d)) (hρc : ∀ d, ρc d = cutH sR.mem (fun k => ρ (back l k)) d) (he : End1 cx' h1 x' y' v w') : N (a.put o.dst v) w' := by
  unfold evOut1 at hr
  split at hr
  · rename_i hok
    simp only [Bool.and_eq_true, List.all_eq_true] at hok
    obtain ⟨hok, htup⟩ := hok
    unfold outOK at hok
    simp only [Bool.and_eq_true, List.all_eq_true, beq_iff_eq] at hok
    obtain ⟨⟨hA, hB⟩, hC⟩ := hok
    obtain ⟨ys, ρo, rfl, hlen, ho, hkp⟩ := he
    generalize hN : freshM s.mem = Nf at *
    have pin : ∀ k, pinOK inp l Nf sR.mem k = true → (∃ ob, getM (encSt h1 x' y').mem (nmG l Nf k) = some ob) → ρo (nmG l Nf k) = ρ k := by
      rintro k hk ⟨ob, hob⟩
      unfold pinOK at hk
      simp only [Bool.and_eq_true, beq_iff_eq] at hk
      obtain ⟨⟨h2, h3⟩, h4⟩ := hk
      have := ho.pn _ _ ob (hpin _ h2) hob
      rw [this, hρc]
      unfold cutH
      cases hg : getM sR.mem (nmG l Nf k) with
      | none => rw [hg] at h4; cases h4
      | some o2 => simp only; rw [h3]
    have hgf : ∀ x ∈ (encSt h1 x' y').mem, nmG l Nf (nmF inp D l Nf x.1) = x.1 := fun x hx => (hA x hx).1
    obtain ⟨hS, m1, m2, m3⟩ := merge (D := D) (R := keptR s keep inp D l sR.mem (encSt h1 x' y').mem) (f := nmF inp D l Nf) (g := nmG l Nf) h ho hw0 hown hmine hgf hN.symm
      (fun x hx => by
        have := (hA x hx).2
        split at this
        · rename_i hd
          simp only [Bool.and_eq_true, Bool.or_eq_true, decide_eq_true_eq] at this
          refine .inl ⟨hd, Option.isSome_iff_exists.1 this.1, ?_⟩
          rcases this.2 with h2 | h2
          · exact .inl h2
          · refine .inr (pin _ h2 ?_)
            rw [hgf x hx]
            exact getM_of_mem hx
        · rename_i hd
          exact .inr ⟨hd, of_decide_eq_true this⟩)
      (fun d hd ob hob => by
        have := hB d (by simpa using hd)
        rw [hob] at this
        simp only [Bool.and_eq_true, Bool.or_eq_true] at this
        refine ⟨this.1, ?_⟩
        rcases this.2 with h2 | h2
        · exact .inl h2
        · cases hrow : ob.isRow with
          | true => exact .inl rfl
          | false =>
            refine .inr (pin d h2 ?_)
            cases hg : getM (relM (nmF inp D l Nf) (encSt h1 x' y').mem) d with
            | none =>
              have h3 := this.1
              rw [hg] at h3
              cases ob <;> simp [sameKind, Obj.isRow] at h3 hrow
            | some o2 =>
              obtain ⟨_, o', h3, _⟩ := (getM_relM hgf).2 d o2 hg
              exact ⟨o', h3⟩)
      hC
      (fun d _ hr E t row hs => by
        unfold keptR at hr
        rw [List.contains_eq_mem, decide_eq_true_eq, List.mem_filter] at hr
        obtain ⟨_, hr⟩ := hr
        simp only [Bool.and_eq_true, beq_iff_eq] at hr
        rw [hN] at hr
        obtain ⟨⟨⟨h2, h3⟩, h4⟩, h5⟩ := hr
        rw [hs] at h5
        refine ⟨?_, ?_⟩
        · rw [hkp _ _ (hkeep _ h2), hρc]
          unfold cutH
          cases hg : getM sR.mem (nmG l Nf d) with
          | none => rw [hg] at h4; cases h4
          | some o2 => simp only; rw [h3]
        · cases hg : getM (relM (nmF inp D l Nf) (encSt h1 x' y').mem) d with
          | none => rw [hg] at h5; cases h5
          | some o2 =>
            rw [hg] at h5
            cases o2 with
            | row E' t' l' =>
              simp only [sameRow, Bool.and_eq_true, decide_eq_true_eq] at h5
              obtain ⟨rfl, rfl⟩ := h5
              exact ⟨l', rfl⟩
            | box _ => cases h5
            | map _ _ _ _ _ => cases h5)
    generalize hρ3 : (fun k => match getM (relM (nmF inp D l Nf) (encSt h1 x' y').mem) k with | some _ => ρo (nmG l Nf k) | none => ρ k) = ρ3 at hS m2
    have hall : ∀ k ob, getM (encSt h1 x' y').mem k = some ob → getM (relM (nmF inp D l Nf) (encSt h1 x' y').mem ++ dropM D s.mem) (nmF inp D l Nf k) = some (ob.rn (nmF inp D l Nf)) ∧ ρ3 (nmF inp D l Nf k) = ρo k := fun k ob hk => ⟨m1 k ob hk, by rw [← hρ3]; exact m3 k ob hk⟩
    refine hK _ _ _ _ _ hr hS ?_
    have hv1 : ∀ j, j < ys.length → V1 w' (Own cx' ρo (encSt h1 x' y').mem) ρo (encSt h1 x' y').mem ((encSt h1 x' y').fr.get j) (ys.getD j undef) := by
      intro j hj
      have h2 := ho.fr j
      have e : (ys.toArray.getD j undef) = ys.getD j undef := by simp [List.getD]
      rw [e] at h2
      refine V1.of_VR h2 fun c hc => ?_
      have := htup j (by simp; omega)
      rw [hc] at this
      cases this
    rw [← hlen]
    match ys, hlen, hv1 with
    | [], _, _ => exact ⟨[], rfl, rfl⟩
    | [y], _, hv1 =>
      have h2 := (hv1 0 (by simp)).rn m2 hall
      refine VR.of_V1 (v := ((encSt h1 x' y').fr.get 0).rn (nmF inp D l Nf)) h2 fun c hc => ?_
      rw [hc] at h2
      exact h2
    | y :: y2 :: ys, hlen, hv1 =>
      have h2 := TR.rn (vs := (List.range (y :: y2 :: ys).length).map fun i => (encSt h1 x' y').fr.get i) (ys := y :: y2 :: ys) m2 hall (by simp) (fun j hj => by
        have := hv1 j hj
        have hj' : j < ys.length + 1 + 1 := by simpa using hj
        simpa [List.getD, List.getElem?_range hj'] using this)
      rw [List.map_map] at h2
      rw [wrapRes_two (by simp)]
      have hne : ∀ u : V, u ≠ .undef → u.rn (nmF inp D l Nf) ≠ .undef := by
        intro u hu h
        cases u <;> first | exact hu rfl | cases h
      have h0 : (encSt h1 x' y').fr.get 0 ≠ .undef := by
        intro hc
        have := htup 0 (by rw [← hlen]; simp)
        rw [hc] at this
        cases this
      have hcl : isClo (Rf.chain ((List.range (y :: y2 :: ys).length).map fun i => ((encSt h1 x' y').fr.get i).rn (nmF inp D l Nf))) = none := by
        have e : (List.range (y :: y2 :: ys).length) = 0 :: (List.range (y2 :: ys).length).map (· + 1) := by
          show List.range ((y2 :: ys).length + 1) = _
          rw [List.range_succ_eq_map]
        rw [e]
        exact isClo_pair (hne _ h0)
      exact ⟨_, by unfold tupVal; rw [hcl]; rfl, h2⟩
  · cases hr
theorem evOut_sound {cx' : Cx} {inp : List (Nat × OSh)} {keep : List Nat} {D : List Nat} {l : List (Nat × Nat)} {sR : St} {ρc : Nat → Value} {v : Value} (h : Sim cx s a w ρ) (hK : Owed cx a o.dst out J r K N) (hw0 : cx'.w0 = w)
    (hown : ∀ b, cx'.own b ↔ cx.own b ∨ ∃ d ob, D.contains d = false ∧ getM s.mem d = some ob ∧ hb (ρ d) = some b)
    (hmine : ∀ b, cx'.mine b → ∃ d ob, D.contains d = true ∧ getM s.mem d = some ob ∧ hb (ρ d) = some b)
    (hpin : ∀ d, pinned inp d = true → cx'.pin d = some (ρc d)) (hkeep : ∀ d, keep.contains d = true → cx'.keep d = some (ρc d)) (hρc : ∀ d, ρc d = cutH sR.mem (fun k => ρ (back l k)) d) :
    ∀ (hs : List Shape) (z : OutD hs), interp out J (evOut s inp keep D l sR.mem hs z K) = some r → Ends cx' hs z v w' → N (a.put o.dst v) w'
  | [], _, _, he => he.elim
  | [_], _, hr, he => evOut1_sound h hr hK hw0 hown hmine hpin hkeep hρc he
  | _ :: _ :: _, .inl _, hr, he => evOut1_sound h hr hK hw0 hown hmine hpin hkeep hρc he
  | _ :: g :: hs, .inr q, hr, he => evOut_sound h hK hw0 hown hmine hpin hkeep hρc (g :: hs) q hr he
/-! ### what leads to no memory -/
def V.clean : V → Bool
  | .sl _ _ _ => false
  | .sptr _ _ => false
  | .arr _ t _ => !t.refs
  | .pair a b => a.clean && b.clean
  | .agg v | .tup v => v.clean
  | _ => true
theorem enc_clean : ∀ {t : Ty} {x : t.den}, t.refs = false → (enc t x).clean = true
  | .int _, _, _ => rfl
  | .bool, _, _ => rfl
  | .str, _, _ => rfl
  | .unit, _, _ => rfl
  | .nilp, _, _ => rfl
  | .fn _, _, _ => rfl
  | .ifc, _, _ => rfl
  | .pair a b, x, h => by
    simp only [Ty.refs, Bool.or_eq_false_iff] at h
    simp only [enc, V.clean, enc_clean h.1, enc_clean h.2, Bool.and_self]
  | .agg t, x, h => by simp only [enc, V.clean]; exact enc_clean (t := t) (by simpa only [Ty.refs] using h)
  | .arr _ t, _, h => by simp only [enc, V.clean]; simpa only [Ty.refs, Bool.not_eq_true'] using h
  | .sl _ _, _, h => by simp [Ty.refs] at h
theorem Sh.enc_clean : ∀ {h : Sh} {x : h.den}, h.clean = true → (h.enc x).clean = true
  | .val t, x, hc => Rf.enc_clean (by simpa [Sh.clean] using hc)
  | .rs _, _, _ => rfl
  | .ptr _ _, _, _ => rfl
  | .pair a b, x, hc => by
    simp only [Sh.clean, Bool.and_eq_true] at hc
    simp only [Sh.enc, V.clean, Sh.enc_clean hc.1, Sh.enc_clean hc.2, Bool.and_self]
  | .agg a, x, hc => by simp only [Sh.enc, V.clean]; exact Sh.enc_clean (h := a) hc
  | .nilp, _, _ => rfl
  | .mp _, _, _ => rfl
  | .dead, _, _ => rfl
  | .lit _ _, _, hc => by simp [Sh.clean] at hc
theorem FR.clean {own own' : Nat → Prop} {m : Mem} : ∀ {v : V} {cs : List Value}, v.clean = true → FR w own ρ m v cs → FR w own' ρ m v cs := by
  intro v
  induction v with
  | pair a b iha ihb =>
    rintro cs hc ⟨c1, c2, e, h1, h2⟩
    simp only [V.clean, Bool.and_eq_true] at hc
    exact ⟨c1, c2, e, iha hc.1 h1, ihb hc.2 h2⟩
  | agg a ih => intro cs hc h; exact ih hc h
  | arr n t l => intro cs hc h; exact DR.any (t := .arr n t) (by simpa [V.clean, Ty.refs] using hc) h
  | sl E t l => intro cs hc _; simp [V.clean] at hc
  | sptr k u _ => intro cs hc _; simp [V.clean] at hc
  | _ => intro cs _ h; exact h
theorem V1.clean {own own' : Nat → Prop} {m : Mem} {v : V} {x : Value} (hc : v.clean = true) (h : V1 w own ρ m v x) : V1 w own' ρ m v x := by
  cases v
  case any => trivial
  case undef => exact h
  case agg c => obtain ⟨cs, e, hf⟩ := h; exact ⟨cs, e, hf.clean hc⟩
  case arr n t l => obtain ⟨cs, e, hf⟩ := h; exact ⟨cs, e, hf.clean hc⟩
  all_goals exact FR.clean (own := own) (own' := own') (ρ := ρ) (m := m) (w := w) hc h
theorem TR.clean {own own' : Nat → Prop} {m : Mem} : ∀ {v : V} {xs : List Value}, v.clean = true → TR w own ρ m v xs → TR w own' ρ m v xs := by
  intro v
  induction v with
  | unit => intro xs _ h; exact h
  | pair a b _ ihb =>
    rintro xs hc ⟨y, ys, e, h1, h2⟩
    simp only [V.clean, Bool.and_eq_true] at hc
    exact ⟨y, ys, e, h1.clean hc.1, ihb hc.2 h2⟩
  | _ => intro xs _ h; exact h.elim
theorem VR.clean {own own' : Nat → Prop} {m : Mem} {v : V} {x : Value} (hc : v.clean = true) (h : VR w own ρ m v x) : VR w own' ρ m v x := by
  cases v
  case tup c => obtain ⟨xs, e, ht⟩ := h; exact ⟨xs, e, ht.clean hc⟩
  case any => trivial
  all_goals exact V1.clean (own := own) (own' := own') (ρ := ρ) (m := m) (w := w) hc h
theorem TV.clean {own own' : Nat → Prop} {t : Ty} {y : t.den} {x : Value} (hc : t.refs = false) (h : TV w own t y x) : TV w own' t y x := by
  unfold TV at h ⊢
  split at h
  · rename_i ha; rw [if_pos ha]; obtain ⟨cs, e, hd⟩ := h; exact ⟨cs, e, hd.any hc⟩
  · rename_i ha; rw [if_neg ha]; exact h.any hc
theorem MR.clean {own own' : Nat → Prop} {k t : Ty} (hk : k.refs = false) (ht : t.refs = false) : ∀ {l : List (k.den × t.den)} {es : List MapEntry}, MR w own k t l es → MR w own' k t l es
  | [], _, h => h
  | _ :: _, _, ⟨e, es', h1, h2, h3, h4⟩ => ⟨e, es', h1, h2.clean hk, h3.clean ht, MR.clean hk ht h4⟩
def Obj.clean : Obj → Bool
  | .box v => v.clean
  | .row _ t _ => !t.refs
  | .map _ _ k t _ => !k.refs && !t.refs
theorem OR.clean {own own' : Nat → Prop} {m : Mem} {d : Nat} {o : Obj} (hc : o.clean = true) (h : OR 0 w own ρ m d o) : OR 0 w own' ρ m d o := by
  cases o with
  | box v => obtain ⟨b, cs, T, h1, h2, h3, h4⟩ := h; exact ⟨b, cs, T, h1, h2, h3.clean hc, h4⟩
  | row E t l => obtain ⟨h0, css, h1, h2⟩ := h; exact ⟨h0, css, h1, h2.mono fun _ _ hx => DR.any (by simpa [Obj.clean] using hc) hx⟩
  | map K E k t l =>
    obtain ⟨r, es, c, h1, h2, h3⟩ := h
    simp only [Obj.clean, Bool.and_eq_true, Bool.not_eq_true'] at hc
    exact ⟨r, es, c, h1, h2, h3.clean hc.1 hc.2⟩
theorem encSlots_clean : ∀ {l : List (Nat × Sh)} {x : slotsDen l} {f : Fr}, (l.all fun x => x.2.clean) = true → (∀ t, (f.get t).clean = true) → ∀ t, ((encSlots l x f).get t).clean = true
  | [], _, _, _, hf, t => hf t
  | [(d, h)], x, f, hc, hf, t => by
    simp only [List.all_cons, List.all_nil, Bool.and_true] at hc
    simp only [encSlots]
    rcases Fr.get_set f d t (h.enc x) with ⟨_, e | e⟩ | ⟨_, e⟩ <;> rw [e]
    · exact Sh.enc_clean hc
    · rfl
    · exact hf t
  | (d, h) :: y :: r, x, f, hc, hf, t => by
    rw [List.all_cons, Bool.and_eq_true] at hc
    simp only [encSlots]
    rcases Fr.get_set (encSlots (y :: r) x.2 f) d t (h.enc x.1) with ⟨_, e | e⟩ | ⟨_, e⟩ <;> rw [e]
    · exact Sh.enc_clean hc.1
    · rfl
    · exact encSlots_clean hc.2 hf t
theorem encMem_clean : ∀ {l : List (Nat × OSh)} {y : memDen l}, (l.all fun x => x.2.clean) = true → ∀ d o, getM (encMem l y) d = some o → o.clean = true
  | [], _, _, _, _, h => by cases h
  | (k, .box h) :: r, y, hc, d, o, hg => by
    rw [List.all_cons, Bool.and_eq_true] at hc
    simp only [encMem, getM] at hg
    split at hg
    · cases hg; exact Sh.enc_clean hc.1
    · exact encMem_clean hc.2 d o hg
  | (k, .row E t) :: r, y, hc, d, o, hg => by
    rw [List.all_cons, Bool.and_eq_true] at hc
    simp only [encMem, getM] at hg
    split at hg
    · cases hg; exact hc.1
    · exact encMem_clean hc.2 d o hg
  | (k, .map K E k' t) :: r, y, hc, d, o, hg => by
    rw [List.all_cons, Bool.and_eq_true] at hc
    simp only [encMem, getM] at hg
    split at hg
    · cases hg; exact hc.1
    · exact encMem_clean hc.2 d o hg
/-- What is clean stands in any context. -/
theorem Sim.cleanIn {cx1 cx2 : Cx} (h : Sim cx1 s a w ρ) (hf : ∀ t, (s.fr.get t).clean = true) (hm : ∀ d o, getM s.mem d = some o → o.clean = true) (hw0 : cx2.w0 = cx1.w0) (hmine : cx2.mine = cx1.mine) (hpin : cx2.pin = cx1.pin)
    (hfo : ∀ b, cx2.own b → b < w.heap.size) (hno : ∀ b, cx1.ok b → ¬ cx2.own b) : Sim cx2 s a w ρ := by
  obtain ⟨sz, df, be, fo, ge, no, ds, ob, fr, pl, pn⟩ := h
  have hok : cx2.ok = cx1.ok := by funext b; simp only [Cx.ok, hw0, hmine]
  exact ⟨sz, df, by rw [hw0, hok]; exact be, hfo, by rw [hok]; exact ge, fun d o b h1 h2 => hno b (ge d o b h1 h2).1, ds, fun d o h1 => (ob d o h1).clean (hm d o h1), fun t => (fr t).clean (hf t), by rw [hpin]; exact pl, by rw [hpin]; exact pn⟩
theorem End1.cleanIn {cx1 cx2 : Cx} {h : Shape} {x : slotsDen h.slots} {y : memDen h.mem} {v : Value} (he : End1 cx1 h x y v w) (hc : h.clean = true) (hw0 : cx2.w0 = cx1.w0) (hmine : cx2.mine = cx1.mine) (hpin : cx2.pin = cx1.pin) (hkp : cx2.keep = cx1.keep)
    (hfo : ∀ b, cx2.own b → b < w.heap.size) (hno : ∀ b, cx1.ok b → ¬ cx2.own b) : End1 cx2 h x y v w := by
  obtain ⟨ys, ρ, e, hl, hs, hk⟩ := he
  unfold Shape.clean at hc
  rw [Bool.and_eq_true] at hc
  exact ⟨ys, ρ, e, hl, hs.cleanIn (encSlots_clean hc.1 fun t => by rw [Fr.get_mk]; rfl) (encMem_clean hc.2) hw0 hmine hpin hfo hno, by rw [hkp]; exact hk⟩
theorem Ends.size {cx1 : Cx} : ∀ {hs : List Shape} {z : OutD hs} {v : Value}, Ends cx1 hs z v w → cx1.w0.heap.size ≤ w.heap.size
  | [], _, _, h => h.elim
  | [_], _, _, ⟨_, _, _, _, hs, _⟩ => hs.be.size
  | _ :: _ :: _, .inl _, _, ⟨_, _, _, _, hs, _⟩ => hs.be.size
  | _ :: g :: r, .inr q, _, h => Ends.size (hs := g :: r) (z := q) h
theorem Ends.cleanIn {cx1 cx2 : Cx} : ∀ {hs : List Shape} {z : OutD hs} {v : Value}, Ends cx1 hs z v w → hs.all Shape.clean = true → cx2.w0 = cx1.w0 → cx2.mine = cx1.mine → cx2.pin = cx1.pin → cx2.keep = cx1.keep →
    (∀ b, cx2.own b → b < w.heap.size) → (∀ b, cx1.ok b → ¬ cx2.own b) → Ends cx2 hs z v w
  | [], _, _, h, _, _, _, _, _, _, _ => h.elim
  | [_], _, _, h, hc, e1, e2, e3, e4, h1, h2 => End1.cleanIn h (by simpa using hc) e1 e2 e3 e4 h1 h2
  | _ :: _ :: _, .inl _, _, h, hc, e1, e2, e3, e4, h1, h2 => End1.cleanIn h (by rw [List.all_cons, Bool.and_eq_true] at hc; exact hc.1) e1 e2 e3 e4 h1 h2
  | _ :: g :: r, .inr q, _, h, hc, e1, e2, e3, e4, h1, h2 => Ends.cleanIn (hs := g :: r) (z := q) h (by rw [List.all_cons, Bool.and_eq_true] at hc; exact hc.2) e1 e2 e3 e4 h1 h2
theorem freeze_keys {d : Nat} (hf : s.freeze d = some s') {k : Nat} {ob : Obj} (h : getM s'.mem k = some ob) : ∃ ob', getM s.mem k = some ob' := by
  unfold St.freeze at hf
  split at hf
  · rename_i E t l hg
    simp only at hf
    split at hf
    · cases hf
    · cases hf
      simp only at h
      rw [getM_frzM, getM_delM] at h
      split at h
      · cases h
      · cases hk : getM s.mem k with
        | none => rw [hk] at h; cases h
        | some o => exact ⟨o, rfl⟩
  · cases hf
theorem freezeAll_keys : ∀ (ks : List Nat) {s s' : St}, s.freezeAll ks = some s' → ∀ {k : Nat} {ob : Obj}, getM s'.mem k = some ob → ∃ ob', getM s.mem k = some ob'
  | [], s, s', hf, k, ob, h => by
    simp only [St.freezeAll] at hf
    cases hf
    exact ⟨ob, h⟩
  | d :: ds, s, s', hf, k, ob, h => by
    simp only [St.freezeAll] at hf
    split at hf
    · cases hs : s.freeze d with
      | none => rw [hs] at hf; cases hf
      | some s1 =>
        rw [hs] at hf
        simp only [Option.bind_some] at hf
        obtain ⟨o1, h1⟩ := freezeAll_keys ds hf h
        exact freeze_keys hs h1
    · exact freezeAll_keys ds hf h
/-- What is owed behind a call that is handed objects: what it does not come to is as it was. -/
def OwedF (cx : Cx) (a : Act) (dst : Option Nat) {R : Type} (out : List V → Mem → Option R) (J : Nat → St → Option R) (r : R) (K : V → St → Tree) (N : Act → World → Prop) (F : World → Prop) : Prop :=
  ∀ v s' w' ρ' x, interp out J (K v s') = some r → Sim cx s' a w' ρ' → VR w' (Own cx ρ' s'.mem) ρ' s'.mem v x → F w' → N (a.put dst x) w'
theorem Ends.bel {cx1 : Cx} : ∀ {hs : List Shape} {z : OutD hs} {v : Value}, Ends cx1 hs z v w → Bel cx1.ok cx1.w0 w
  | [], _, _, h => h.elim
  | [_], _, _, ⟨_, _, _, _, hs, _⟩ => hs.be
  | _ :: _ :: _, .inl _, _, ⟨_, _, _, _, hs, _⟩ => hs.be
  | _ :: g :: r, .inr q, _, h => Ends.bel (hs := g :: r) (z := q) h
theorem callO_sound {c : Call} {xo : Operand} {f : FuncId} (ho : o.op = .call c) (hc : c.callee = .value xo) (hxo : a.eval xo = .func (.func f) #[] #[]) {sF : St} (h0 : Sim cx s a w ρ) (h : Sim cx sF a w ρ) (hkeys : ∀ k ob, getM sF.mem k = some ob → ∃ ob', getM s.mem k = some ob') (hK : OwedF cx a o.dst out J r K N fun w' => w.heap.size ≤ w'.heap.size ∧ ∀ d ob b, (callD sF (c.args.toList.map (ev sF))).contains d = false → getM sF.mem d = some ob → hb (ρ d) = some b → w'.heap[b]? = w.heap[b]?) {W0 : World} (hbase : cx.base W0) {alt : Tree} (halt : interp out J alt = some r → o.wp P a w N Q) :
    ∀ (es : List OE), (∀ e ∈ es, OOK P W0 e) → interp out J (evCallO s sF f c.args.toList K alt es) = some r → o.wp P a w N Q
  | [], _, hr => halt hr
  | e :: es, hes, hr => by
    simp only [evCallO] at hr
    split at hr
    · rename_i p hid hdec
      obtain ⟨hid, hlen⟩ := of_decide_eq_true hid
      obtain ⟨heok, hOOK⟩ := hes e (by simp)
      unfold OE.ok at heok
      simp only [Bool.and_eq_true, List.all_eq_true, Bool.or_eq_true, decide_eq_true_eq] at heok
      simp only [interp] at hr
      cases hf : e.f p.1 p.2 with
      | none => rw [hf] at hr; cases hr
      | some z =>
        rw [hf] at hr
        simp only [Option.bind_some] at hr
        generalize hDd : callD sF (c.args.toList.map (ev sF)) = D at *
        obtain ⟨own', hown', hP, hPk⟩ := Sim.layAll ((sF.mem.map (·.1)).filter fun k => !(D.contains k)) h
        have hlen2 : (c.args.toList.map a.eval).length ≤ e.inp.n := by simpa using hlen
        obtain ⟨hact1, hact2⟩ := act_of hlen2
        have hvx : ∀ q ∈ (c.args.toList.map fun x => (ev (callP sF D) x, a.eval x)), VR w (Own { cx with own := own' } ρ (callP sF D).mem) ρ (callP sF D).mem q.1 q.2 := by
          intro q hq
          obtain ⟨x, _, rfl⟩ := List.mem_map.1 hq
          exact hP.ev x
        have e1 : (c.args.toList.map fun x => (ev (callP sF D) x, a.eval x)).map (·.1) = c.args.toList.map (ev (callP sF D)) := by simp
        have e2 : (c.args.toList.map fun x => (ev (callP sF D) x, a.eval x)).map (·.2) = c.args.toList.map a.eval := by simp
        have hQ : Sim { cx with own := own' } (callS e.inp (callP sF D) (c.args.toList.map (ev (callP sF D)))) (actOf e.inp.n (c.args.toList.map a.eval)) w ρ := by
          refine hP.refr rfl hact1 rfl ?_
          rw [← e1]
          refine args_fr (k := 0) hvx ?_ ?_
          · intro j hj
            rw [e2, Nat.zero_add]
            exact hact2 j (by simpa using hj)
          · intro t
            rw [Fr.get_mk]
            trivial
        obtain ⟨x, y, hxy, hCal⟩ := decSt_sound hQ.nopin (lo := 0) (fun _ _ => rfl) heok.1 hdec
        cases hxy
        generalize hsw : allSwaps 0 e.inp (callS e.inp (callP sF D) (c.args.toList.map (ev (callP sF D)))) = l at *
        generalize hρ : (cutH ((callS e.inp (callP sF D) (c.args.toList.map (ev (callP sF D)))).rens l).mem fun k => ρ (back l k)) = ρc at *
        have hρc : ∀ d, ρc d = cutH ((callS e.inp (callP sF D) (c.args.toList.map (ev (callP sF D)))).rens l).mem (fun k => ρ (back l k)) d := fun d => by rw [hρ]
        let cx' : Cx := ⟨own', w, fun b => ∃ d ob, getM (encMem e.inp.mem y) d = some ob ∧ hb (ρc d) = some b, fun d => if pinned e.inp.mem d then some (ρc d) else none, fun d => if e.keep.contains d then some (ρc d) else none⟩
        have hC' : Sim cx' (encSt e.inp x y) (actOf e.inp.n (c.args.toList.map a.eval)) w ρc := by
          refine hCal.recx rfl rfl (fun d ob b h1 h2 => ⟨d, ob, h1, h2⟩) ?_ ?_
          · intro d v hd
            simp only [cx'] at hd
            split at hd
            · rename_i hp
              unfold pinned at hp
              obtain ⟨q, hq, hq2⟩ := List.any_eq_true.1 hp
              simp only [Bool.and_eq_true, beq_iff_eq, Bool.not_eq_true'] at hq2
              rcases heok.2 q hq with h3 | h3
              · rw [hq2.2] at h3; cases h3
              · rw [← hq2.1]; exact h3
            · cases hd
          · intro d v ob hd _
            simp only [cx'] at hd
            split at hd
            · cases hd; rfl
            · cases hd
        have hbase' : cx'.base W0 := by
          refine ⟨hbase.at h.be, ?_⟩
          rintro b ⟨d, ob, h1, h2⟩
          exact hbase.ok (hCal.ge d ob b h1 h2).1
        have hkeepF : ∀ d, e.keep.contains d = true → cx'.keep d = some (ρc d) := by
          intro d hd
          show (if e.keep.contains d then some (ρc d) else none) = _
          rw [if_pos hd]
        have hkeep' : ∀ d u, cx'.keep d = some u → e.keep.contains d = true ∧ ρc d = u := by
          intro d u hd
          have hd : (if e.keep.contains d then some (ρc d) else none) = some u := hd
          split at hd
          · rename_i h9
            cases hd
            exact ⟨h9, rfl⟩
          · cases hd
        have hdo := hOOK cx' w x y z _ ρc hf rfl hbase' hkeep' hlen2 hC'
        rw [hid] at hdo
        have hrun : (execOp a.eval o).run P w = (callFunc f (c.args.toList.map a.eval).toArray).run P w := by
          unfold execOp
          rw [ho]
          simp only [resolve, hc, hxo, Sem.run_bind, Deferred.ofValue, Sem.run_pure, Result.andThen_ok, invoke]
          have e3 : (#[] ++ c.args.map a.eval ++ #[] : Array Value) = (c.args.toList.map a.eval).toArray := by
            apply Array.toList_inj.1
            simp
          rw [e3]
        have hmineF : ∀ b, cx'.mine b → ∃ d ob, D.contains d = true ∧ getM sF.mem d = some ob ∧ hb (ρ d) = some b := by
          rintro b ⟨d, ob, h1, h2⟩
          rw [hρc] at h2
          unfold cutH at h2
          cases hg : getM ((callS e.inp (callP sF D) (c.args.toList.map (ev (callP sF D)))).rens l).mem d with
          | none => rw [hg] at h2; cases h2
          | some o1 =>
            rw [hg] at h2
            obtain ⟨o2, h3⟩ := rens_get l _ d o1 hg
            obtain ⟨h4, o3, h5⟩ := hPk (back l d) o2 h3
            refine ⟨back l d, o3, ?_, h5, h2⟩
            cases hcn : D.contains (back l d) with
            | true => rfl
            | false => exact (h4 (List.mem_filter.2 ⟨List.mem_map.2 ⟨_, mem_of_getM h5, rfl⟩, by rw [hcn]; rfl⟩)).elim
        have hpinF : ∀ d, pinned e.inp.mem d = true → cx'.pin d = some (ρc d) := by
          intro d hd
          show (if pinned e.inp.mem d then some (ρc d) else none) = _
          rw [if_pos hd]
        have finish : ∀ v w', Ends cx' e.outs z v w' → N (a.put o.dst v) w' := by
          intro v w' he
          have hF : w.heap.size ≤ w'.heap.size ∧ ∀ d ob b, D.contains d = false → getM sF.mem d = some ob → hb (ρ d) = some b → w'.heap[b]? = w.heap[b]? := by
            have hbel : Bel cx'.ok w w' := he.bel
            refine ⟨hbel.size, fun d ob b hd h1 h2 => hbel.block b (h.ge d ob b h1 h2).2 ?_⟩
            rintro (h3 | h3)
            · have h4 := (h.ge d ob b h1 h2).2
              have h5 : w.heap.size ≤ b := h3
              omega
            · obtain ⟨d', ob', h4, h5, h6⟩ := hmineF b h3
              rw [h.ds d d' ob ob' b h1 h5 h2 h6, h4] at hd
              cases hd
          refine (?_ : (w.heap.size ≤ w'.heap.size ∧ ∀ d ob b, D.contains d = false → getM sF.mem d = some ob → hb (ρ d) = some b → w'.heap[b]? = w.heap[b]?) → N (a.put o.dst v) w') hF
          have hKF : Owed cx a o.dst out J r K (fun a' w' => (w.heap.size ≤ w'.heap.size ∧ ∀ d ob b, D.contains d = false → getM sF.mem d = some ob → hb (ρ d) = some b → w'.heap[b]? = w.heap[b]?) → N a' w') :=
            fun v s' w' ρ' x h1 h2 h3 hF => hK v s' w' ρ' x h1 h2 h3 hF
          unfold behindCall at hr
          split at hr
          · rename_i hcl
            have hlt : ∀ b, (cx.own b ∨ ∃ d ob, D.contains d = false ∧ getM s.mem d = some ob ∧ hb (ρ d) = some b) → b < w.heap.size := by
              rintro b (hx | ⟨d, ob, _, h1, h2⟩)
              · exact h0.fo b hx
              · exact (h0.ge d ob b h1 h2).2
            have he2 : Ends { cx' with own := fun b => cx.own b ∨ ∃ d ob, D.contains d = false ∧ getM s.mem d = some ob ∧ hb (ρ d) = some b } e.outs z v w' := by
              refine he.cleanIn hcl rfl rfl rfl rfl (fun b hb' => Nat.lt_of_lt_of_le (hlt b hb') he.size) ?_
              rintro b (hge | hm) hown2
              · have h9 := hlt b hown2
                have h8 : w.heap.size ≤ b := hge
                omega
              · obtain ⟨d, ob, hd, h1, h2⟩ := hmineF b hm
                obtain ⟨ob', h1'⟩ := hkeys d ob h1
                rcases hown2 with hx | ⟨d', ob2, hd', h3, h4⟩
                · exact h.no d ob b h1 h2 hx
                · have e9 := h0.ds d d' _ _ b h1' h3 h2 h4
                  rw [e9, hd'] at hd
                  cases hd
            have hiff : ∀ b, (∃ d ob, D.contains d = false ∧ getM s.mem d = some ob ∧ hb (ρ d) = some b) ↔ ∃ d ob, D.contains d = false ∧ getM (dimIf e.keep D s).mem d = some ob ∧ hb (ρ d) = some b := fun b =>
              ⟨fun ⟨d, ob, h1, h2, h3⟩ => let ⟨ob', h4⟩ := dimIf_some h2; ⟨d, ob', h1, h4, h3⟩, fun ⟨d, ob, h1, h2, h3⟩ => let ⟨ob', h4⟩ := dimIf_back h2; ⟨d, ob', h1, h4, h3⟩⟩
            exact evOut_sound (cx' := { cx' with own := fun b => cx.own b ∨ ∃ d ob, D.contains d = false ∧ getM s.mem d = some ob ∧ hb (ρ d) = some b }) (N := fun a' w' => (w.heap.size ≤ w'.heap.size ∧ ∀ d ob b, D.contains d = false → getM sF.mem d = some ob → hb (ρ d) = some b → w'.heap[b]? = w.heap[b]?) → N a' w') (h0.dimIf e.keep D) hKF rfl (fun b => or_congr_right (hiff b)) (fun b hm => by
              obtain ⟨d, ob, hd, h1, h2⟩ := hmineF b hm
              obtain ⟨ob', h1'⟩ := hkeys d ob h1
              obtain ⟨ob2, h3⟩ := dimIf_some (k := e.keep) (D := D) h1'
              exact ⟨d, ob2, hd, h3, h2⟩) hpinF hkeepF hρc e.outs z hr he2
          · refine evOut_sound (N := fun a' w' => (w.heap.size ≤ w'.heap.size ∧ ∀ d ob b, D.contains d = false → getM sF.mem d = some ob → hb (ρ d) = some b → w'.heap[b]? = w.heap[b]?) → N a' w') (h.dimIf e.keep D) hKF rfl ?_ (fun b hm => by
              obtain ⟨d, ob, hd, h1, h2⟩ := hmineF b hm
              obtain ⟨ob2, h3⟩ := dimIf_some (k := e.keep) (D := D) h1
              exact ⟨d, ob2, hd, h3, h2⟩) hpinF hkeepF hρc e.outs z hr he
            intro b
            rw [show cx'.own = own' from rfl, hown' b]
            refine or_congr_right ⟨?_, ?_⟩
            · rintro ⟨d, ob, hd, h1, h2⟩
              obtain ⟨ob2, h3⟩ := dimIf_some (k := e.keep) (D := D) h1
              refine ⟨d, ob2, ?_, h3, h2⟩
              have := (List.mem_filter.1 hd).2
              simpa using this
            · rintro ⟨d, ob, hd, h1, h2⟩
              obtain ⟨ob2, h3⟩ := dimIf_back h1
              exact ⟨d, ob2, List.mem_filter.2 ⟨List.mem_map.2 ⟨_, mem_of_getM h3, rfl⟩, by rw [hd]; rfl⟩, h3, h2⟩
        unfold Oper.wp
        rcases hdo with ⟨hrun2, hcalls⟩ | ⟨v, w', hrun2, hpost⟩
        · rw [hrun, hrun2]
          refine hcalls.mono ?_
          rintro en w' ⟨v, rfl, hpost⟩
          exact finish v w' hpost
        · rw [hrun, hrun2]
          exact finish v w' hpost
    · exact callO_sound ho hc hxo h0 h hkeys hK hbase halt es (fun e he => hes e (by simp [he])) hr
/-- What a function holds, value by value. -/
theorem TR.unchain {own : Nat → Prop} {m : Mem} : ∀ {q : V} {ys : List Value}, TR w own ρ m q ys → (unchain q).length = ys.length ∧ ∀ p ∈ (unchain q).zip ys, VR w own ρ m p.1 p.2 := by
  intro q
  induction q with
  | pair a b _ ih =>
    rintro ys ⟨y, ys, rfl, h1, h2⟩
    obtain ⟨e, hv⟩ := ih h2
    refine ⟨by simp [Rf.unchain, e], fun p hp => ?_⟩
    simp only [Rf.unchain, List.zip_cons_cons, List.mem_cons] at hp
    rcases hp with rfl | hp
    · refine VR.of_V1 h1 fun c hc => ?_
      have hc' : a = .tup c := hc
      rw [hc'] at h1
      exact h1
    · exact hv p hp
  | unit => intro ys h; subst h; exact ⟨rfl, fun p hp => by cases hp⟩
  | _ => intro ys h; exact h.elim
theorem makeFunc_sound {fn : Fn} {first captured : Array Operand} (ho : o.op = .makeFunc fn first captured) (h : Sim cx s a w ρ) (hr : interp out J (evOp P C s o K) = some r) (hK : Owed cx a o.dst out J r K N) : o.wp P a w N Q := by
  unfold evOp at hr
  rw [ho] at hr
  simp only at hr
  split at hr
  · rename_i f hall
    have hrun : (execOp a.eval o).run P w = .ok (.value (.func (.func f) (first.map a.eval) (captured.map a.eval))) w := by
      unfold execOp
      rw [ho]
      simp [Instr.makeFunc]
    refine wp_pure hrun (hK _ _ _ ρ _ hr h ?_)
    have hvals : ∀ (l : List Operand), (l.map (ev s)).all V.notTup = true → TR w (Own cx ρ s.mem) ρ s.mem (Rf.chain (l.map (ev s))) (l.map a.eval) := by
      intro l
      induction l with
      | nil => intro _; exact rfl
      | cons x l ih =>
        intro hl
        simp only [List.map_cons, List.all_cons, Bool.and_eq_true] at hl
        exact ⟨_, _, rfl, V1.of_VR (h.ev x) (fun c hc => by rw [hc] at hl; exact absurd hl.1 (by simp [V.notTup])), ih hl.2⟩
    refine ⟨undef :: .func (.func f) #[] #[] :: .int .i64 first.size :: (first ++ captured).toList.map a.eval, ?_, undef, _, rfl, rfl, _, _, rfl, rfl, _, _, rfl, rfl, hvals _ hall⟩
    unfold tupVal isClo
    simp only [List.drop_succ_cons, List.drop_zero, Int.toNat_natCast, Array.toList_append, List.map_append]
    congr 1
    · apply Array.toList_inj.1
      simp
    · apply Array.toList_inj.1
      simp
  · cases hr
theorem callC_sound {W0 : World} (hC : TabAt P W0 cx C) {c : Call} {xo : Operand} {q : V} {f : FuncId} {n : Int} (ho : o.op = .call c) (hc : c.callee = .value xo) (hq : ev s xo = .tup q) (hcl : isClo q = some (f, n)) (h : Sim cx s a w ρ)
    (hr : interp out J (evCallC C s f ((caps q).take n.toNat ++ c.args.toList.map (ev s) ++ (caps q).drop n.toNat) K) = some r) (hK : OwedB cx a w o.dst out J r K N) : o.wp P a w N Q := by
  have hx := h.ev xo
  rw [hq] at hx
  obtain ⟨xs, hxe, ht⟩ := hx
  obtain ⟨ys, e3, ht3, hval⟩ : ∃ ys, xs.drop 3 = ys ∧ (caps q).length = ys.length ∧ ∀ p ∈ (caps q).zip ys, VR w (Own cx ρ s.mem) ρ s.mem p.1 p.2 := by
    cases q
    case pair q1 q2 =>
      obtain ⟨x1, r1, rfl, _, ht1⟩ := ht
      cases q2
      case pair q3 q4 =>
        obtain ⟨x2, r2, rfl, _, ht2⟩ := ht1
        cases q4
        case pair q5 q6 =>
          obtain ⟨x3, r3, rfl, _, ht3⟩ := ht2
          obtain ⟨e, hv⟩ := TR.unchain ht3
          exact ⟨r3, rfl, e, hv⟩
        all_goals first | (unfold isClo at hcl; split at hcl <;> cases hcl; done) | (cases q1 <;> cases q3 <;> cases hcl)
      all_goals first | (unfold isClo at hcl; split at hcl <;> cases hcl; done) | (cases q1 <;> cases hcl)
    all_goals first | (cases hcl; done) | (unfold isClo at hcl; split at hcl <;> cases hcl)
  have hxo : a.eval xo = .func (.func f) (ys.take n.toNat).toArray (ys.drop n.toNat).toArray := by
    rw [hxe]
    unfold tupVal
    rw [hcl, e3]
  generalize hL : ((caps q).zip ys).take n.toNat ++ (c.args.toList.map fun x => (ev s x, a.eval x)) ++ ((caps q).zip ys).drop n.toNat = L
  have e1 : L.map (·.1) = (caps q).take n.toNat ++ c.args.toList.map (ev s) ++ (caps q).drop n.toNat := by
    rw [← hL]
    simp only [List.map_append, List.map_take, List.map_drop, List.map_map]
    rw [List.map_fst_zip (by omega)]
    rfl
  have e2 : L.map (·.2) = ys.take n.toNat ++ c.args.toList.map a.eval ++ ys.drop n.toNat := by
    rw [← hL]
    simp only [List.map_append, List.map_take, List.map_drop, List.map_map]
    rw [List.map_snd_zip (by omega)]
    rfl
  have hvx : ∀ p ∈ L, VR w (Own cx ρ s.mem) ρ s.mem p.1 p.2 := by
    intro p hp
    rw [← hL] at hp
    rcases List.mem_append.1 hp with hp | hp
    · rcases List.mem_append.1 hp with hp | hp
      · exact hval p (List.mem_of_mem_take hp)
      · obtain ⟨x, _, rfl⟩ := List.mem_map.1 hp
        exact h.ev x
    · exact hval p (List.mem_of_mem_drop hp)
  rw [← e1] at hr
  unfold evCallC at hr
  split at hr
  · rename_i e y he
    obtain ⟨hmem, hid, hd⟩ := findE_out he
    have hkn := decs_known hd
    have hrun : (execOp a.eval o).run P w = (callFunc f (L.map (·.2)).toArray).run P w := by
      unfold execOp
      rw [ho]
      simp only [resolve, hc, hxo, Sem.run_bind, Deferred.ofValue, Sem.run_pure, Result.andThen_ok, invoke]
      have e4 : ((ys.take n.toNat).toArray ++ c.args.map a.eval ++ (ys.drop n.toNat).toArray : Array Value) = (L.map (·.2)).toArray := by
        rw [e2]
        apply Array.toList_inj.1
        simp
      rw [e4]
    have go : ∀ (own' : Nat → Prop) (s2 : St), (∀ b, own' b → Own cx ρ s.mem b) → (∀ p ∈ L, ∀ d ∈ rowKeys p.1, ∀ b, hb (ρ d) = some b → ¬ own' b) → Sim cx s2 a w ρ →
        (∀ w' z ys, Below w.heap.size w w' → RR w' own' e.rt z ys → RR w' (Own cx ρ s2.mem) e.rt z ys) →
        interp out J (.ask (e.f y) fun r => K (wrapRes (encs e.rt r)) s2) = some r → o.wp P a w N Q := by
      intro own' s2 hsub hkeys h2 hres hr2
      simp only [interp] at hr2
      cases hf : e.f y with
      | none => rw [hf] at hr2; cases hr2
      | some z =>
        rw [hf] at hr2
        simp only [Option.bind_some] at hr2
        have hargs : RR w own' e.ps y (L.map (·.2)) := decs_sound h.rows hsub hvx (fun p hp d hdk => hkeys p hp d hdk) hd
        have hdo := hC.1.1 e hmem own' w y z _ hf (hC.2.at h.be) (fun b hb' => h.own_lt b (hsub b hb')) hargs
        rw [hid] at hdo
        have finish : ∀ v w', (∃ ys, v = wrapVal ys ∧ Below w.heap.size w w' ∧ RR w' own' e.rt z ys) → N (a.put o.dst v) w' := by
          rintro v w' ⟨ys, rfl, hb', hrr⟩
          exact hK _ _ _ _ _ hr2 (h2.later hb') (hres w' z ys hb' hrr).wrap hb'
        unfold Oper.wp
        rcases hdo with ⟨hrun2, hcalls⟩ | ⟨v, w', hrun2, hpost⟩
        · rw [hrun, hrun2]
          refine hcalls.mono ?_
          rintro en w' ⟨v, rfl, hpost⟩
          exact finish v w' hpost
        · rw [hrun, hrun2]
          exact finish v w' hpost
    cases hrefs : e.rt.any Ty.refs with
    | true =>
      rw [hrefs] at hr
      split at hr
      · rename_i s2 hs2
        obtain ⟨h2, _, hown2, hks⟩ := Sim.freezeAll _ h hs2
        refine go (Own cx ρ s2.mem) s2 hown2 ?_ h2 (fun _ _ _ _ hrr => hrr) hr
        intro p hp d hdk b hb' hob
        obtain ⟨E, t, l, hg⟩ := rowKey_is (hvx p hp) (hkn _ (List.mem_map.2 ⟨p, hp, rfl⟩)) hdk
        exact hks d (List.mem_flatMap.2 ⟨p.1, List.mem_map.2 ⟨p, hp, rfl⟩, hdk⟩) E t l hg b hb' hob
      · cases hr
    | false =>
      rw [hrefs] at hr
      simp only at hr
      refine go (fun b => Own cx ρ s.mem b ∧ ∀ p ∈ L, ∀ d ∈ rowKeys p.1, hb (ρ d) ≠ some b) s (fun b hb' => hb'.1) ?_ h (fun w' z ys _ hrr => hrr.any hrefs) hr
      intro p hp d hdk b hb' hob
      exact hob.2 p hp d hdk hb'
  · cases hr
theorem call_sound {W0 : World} (hC : TabAt P W0 cx C) {c : Call} (hos : C.os = [] ∨ OwedF cx a o.dst out J r K N fun w' => w.heap.size ≤ w'.heap.size ∧ ∀ d v b, callFree s c.args.toList d = true → getM s.mem d = some (.box v) → hb (ρ d) = some b → w'.heap[b]? = w.heap[b]?) {xo : Operand} (ho : o.op = .call c) (hc : c.callee = .value xo) (h : Sim cx s a w ρ) (hr : interp out J (evOp P C s o K) = some r) (hK : OwedB cx a w o.dst out J r K N) : o.wp P a w N Q := by
  unfold evOp at hr
  rw [ho] at hr
  simp only [hc] at hr
  rcases (show (∃ q f n, ev s xo = .tup q ∧ isClo q = some (f, n) ∧ interp out J (evCallC C s f ((caps q).take n.toNat ++ c.args.toList.map (ev s) ++ (caps q).drop n.toNat) K) = some r) ∨ (∃ f, ev s xo = .fn f ∧ interp out J (evCall C s f c.args.toList K) = some r) by
    split at hr
    · rename_i f hf; exact .inr ⟨f, hf, hr⟩
    · rename_i q hf
      split at hr
      · rename_i f n hcl; exact .inl ⟨q, f, n, hf, hcl, hr⟩
      · cases hr
    · cases hr) with ⟨q, f, n, hq, hcl, hr⟩ | ⟨f, hfn, hr⟩
  · exact callC_sound hC ho hc hq hcl h hr hK
  have hxo : a.eval xo = .func (.func f) #[] #[] := by
    have := h.ev xo
    rw [hfn] at this
    have e : [a.eval xo] = [Value.func (.func f) #[] #[]] := this
    injection e
  unfold evCall at hr
  split at hr
  · rename_i e y he
    obtain ⟨hmem, hid, hd⟩ := findE_out he
    · -- the values of the arguments
      have hvx : ∀ p ∈ (c.args.toList.map fun x => (ev s x, a.eval x)), VR w (Own cx ρ s.mem) ρ s.mem p.1 p.2 := by
        intro p hp
        obtain ⟨x, _, rfl⟩ := List.mem_map.1 hp
        exact h.ev x
      have e1 : (c.args.toList.map fun x => (ev s x, a.eval x)).map (·.1) = c.args.toList.map (ev s) := by simp
      have e2 : (c.args.toList.map fun x => (ev s x, a.eval x)).map (·.2) = c.args.toList.map a.eval := by simp
      have hkn := decs_known hd
      have hrun : (execOp a.eval o).run P w = (callFunc f (c.args.toList.map a.eval).toArray).run P w := by
        unfold execOp
        rw [ho]
        simp only [resolve, hc, hxo, Sem.run_bind, Deferred.ofValue, Sem.run_pure, Result.andThen_ok, invoke]
        have e3 : (#[] ++ c.args.map a.eval ++ #[] : Array Value) = (c.args.toList.map a.eval).toArray := by
          apply Array.toList_inj.1
          simp
        rw [e3]
      have go : ∀ (own' : Nat → Prop) (s2 : St), (∀ b, own' b → Own cx ρ s.mem b) → (∀ x ∈ c.args.toList, ∀ d ∈ rowKeys (ev s x), ∀ b, hb (ρ d) = some b → ¬ own' b) → Sim cx s2 a w ρ →
          (∀ w' z ys, Below w.heap.size w w' → RR w' own' e.rt z ys → RR w' (Own cx ρ s2.mem) e.rt z ys) →
          interp out J (.ask (e.f y) fun r => K (wrapRes (encs e.rt r)) s2) = some r → o.wp P a w N Q := by
        intro own' s2 hsub hkeys h2 hres hr2
        simp only [interp] at hr2
        cases hf : e.f y with
        | none => rw [hf] at hr2; cases hr2
        | some z =>
          rw [hf] at hr2
          simp only [Option.bind_some] at hr2
          have hargs : RR w own' e.ps y (c.args.toList.map a.eval) := by
            rw [← e2]
            refine decs_sound h.rows hsub hvx ?_ (by rw [e1]; exact hd)
            intro p hp d hdk
            obtain ⟨x, hx, rfl⟩ := List.mem_map.1 hp
            exact hkeys x hx d hdk
          have hdo := hC.1.1 e hmem own' w y z _ hf (hC.2.at h.be) (fun b hb' => h.own_lt b (hsub b hb')) hargs
          rw [hid] at hdo
          have finish : ∀ v w', (∃ ys, v = wrapVal ys ∧ Below w.heap.size w w' ∧ RR w' own' e.rt z ys) → N (a.put o.dst v) w' := by
            rintro v w' ⟨ys, rfl, hb', hrr⟩
            exact hK _ _ _ _ _ hr2 (h2.later hb') (hres w' z ys hb' hrr).wrap hb'
          unfold Oper.wp
          rcases hdo with ⟨hrun2, hcalls⟩ | ⟨v, w', hrun2, hpost⟩
          · rw [hrun, hrun2]
            refine hcalls.mono ?_
            rintro en w' ⟨v, rfl, hpost⟩
            exact finish v w' hpost
          · rw [hrun, hrun2]
            exact finish v w' hpost
      cases hrefs : e.rt.any Ty.refs with
      | true =>
        rw [hrefs] at hr
        split at hr
        · rename_i s2 hs2
          obtain ⟨h2, _, hown2, hks⟩ := Sim.freezeAll _ h hs2
          refine go (Own cx ρ s2.mem) s2 hown2 ?_ h2 (fun _ _ _ _ hrr => hrr) hr
          intro x hx d hdk b hb' hob
          obtain ⟨E, t, l, hg⟩ := rowKey_is (h.ev x) (hkn _ (List.mem_map.2 ⟨x, hx, rfl⟩)) hdk
          exact hks d (List.mem_flatMap.2 ⟨x, hx, hdk⟩) E t l hg b hb' hob
        · cases hr
      | false =>
        rw [hrefs] at hr
        simp only at hr
        refine go (fun b => Own cx ρ s.mem b ∧ ∀ x ∈ c.args.toList, ∀ d ∈ rowKeys (ev s x), hb (ρ d) ≠ some b) s (fun b hb' => hb'.1) ?_ h (fun w' z ys _ hrr => hrr.any hrefs) hr
        intro x hx d hdk b hb' hob
        exact hob.2 x hx d hdk hb'
  · rcases hos with hos | hos
    · rw [hos] at hr
      simp only [evCallO] at hr
      split at hr
      · cases hr
      · cases hr
    · refine callO_sound ho hc hxo h h (fun k ob hk => ⟨ob, hk⟩) (fun v s' w' ρ' x h1 h2 h3 hF => hos v s' w' ρ' x h1 h2 h3 ⟨hF.1, fun d u b hcf hm hb' => hF.2 d _ b (by
        unfold callFree at hcf
        simp only [Bool.and_eq_true, Bool.not_eq_true'] at hcf
        exact hcf.1) hm hb'⟩) hC.2 (fun hr => ?_) C.os hC.1.2 hr
      split at hr
      · rename_i s2 hs2
        obtain ⟨h2, _, _, _⟩ := Sim.freezeAll _ h hs2
        exact callO_sound ho hc hxo h h2 (fun k ob hk => freezeAll_keys _ hs2 hk) (fun v s' w' ρ' x h1 h2 h3 hF => hos v s' w' ρ' x h1 h2 h3 ⟨hF.1, fun d u b hcf _ hb' => by
          unfold callFree at hcf
          rw [hs2] at hcf
          simp only [Bool.and_eq_true, Bool.not_eq_true'] at hcf
          obtain ⟨_, h4, h5⟩ := hcf
          split at h5
          · rename_i u2 hu2
            exact hF.2 d _ b h4 hu2 hb'
          · cases h5⟩) hC.2 (fun hr => by cases hr) C.os hC.1.2 hr
      · cases hr
/-! ### every operation -/
theorem evOp_sound {W0 : World} (hC : TabAt P W0 cx C) (h : Sim cx s a w ρ) (hr : interp out J (evOp P C s o K) = some r) (hK : Owed cx a o.dst out J r K N) : o.wp P a w N Q := by
  have hr0 := hr
  unfold evOp at hr
  cases ho : o.op <;> rw [ho] at hr <;> simp only at hr <;> try (cases hr; done)
  case move x => exact (move_sound (B := fun _ => False) (.inl ho) h hr0 hK).wp
  case assign x => exact (move_sound (B := fun _ => False) (.inr ho) h hr0 hK).wp
  case pick => exact (pick_sound (B := fun _ => False) ho h hr0 hK).wp
  case alloc => exact alloc_sound ho h hr0 hK
  case makeFunc => exact makeFunc_sound ho h hr0 hK
  case box => exact box_sound ho h hr0 hK
  case build => exact (build_sound (B := fun _ => False) ho h hr0 hK).wp
  case buildSlice => exact buildSlice_sound ho h hr0 hK
  case load => exact (load_op (B := fun _ => False) (fun _ _ h => h) ho h hr0 hK).wp
  case store => exact store_op ho h hr0 (fun v s' w' ρ' x h1 h2 h3 _ => hK v s' w' ρ' x h1 h2 h3)
  case nilCheck => exact (nilCheck_sound (B := fun _ => False) ho h hr0 hK).wp
  case binOp => exact (binOp_sound (B := fun _ => False) ho h hr0 hK).wp
  case unOp => exact (unOp_sound (B := fun _ => False) ho h hr0 hK).wp
  case convert => exact (convert_sound (B := fun _ => False) (fun _ h => h) ho h hr0 hK).wp
  case makeSlice => exact makeSlice_sound ho h hr0 hK
  case makeMap => exact makeMap_sound ho h hr0 hK
  case lookup => exact lookup_sound ho h hr0 hK
  case mapUpdate => exact mapUpdate_sound (.inl ho) h hr0 hK
  case insert => exact mapUpdate_sound (.inr ho) h hr0 hK
  case slice => exact (slice_sound (B := fun _ => False) ho h hr0 hK).wp
  case fieldAddr => exact (fieldAddr_sound (B := fun _ => False) ho h hr0 hK).wp
  case field => exact (field_sound (B := fun _ => False) ho h hr0 hK).wp
  case indexAddr => exact (indexAddr_sound (B := fun _ => False) ho h hr0 hK).wp
  case index => exact (index_sound (B := fun _ => False) ho h hr0 hK).wp
  case extract => exact (extract_sound (B := fun _ => False) ho h hr0 hK).wp
  case call c =>
    cases hc : c.callee with
    | value f => exact call_sound hC (.inr fun v s' w' ρ' x h1 h2 h3 _ => hK v s' w' ρ' x h1 h2 h3) ho hc h hr0 (fun v s' w' ρ' x h1 h2 h3 _ => hK v s' w' ρ' x h1 h2 h3)
    | invoke _ _ => rw [hc] at hr; cases hr
    | builtin b =>
      rw [hc] at hr
      cases b <;> simp only at hr <;> try (cases hr; done)
      case len => exact (len_sound (B := fun _ => False) (fun _ h => h) ho hc h hr0 hK).wp
      case append => exact append_sound ho hc h hr0 hK
      case delete => exact delete_sound ho hc h hr0 hK
      case max => exact (minmax_op (B := fun _ => False) (mx := true) ho hc h hr hK).wp
      case min => exact (minmax_op (B := fun _ => False) (mx := false) ho hc h hr hK).wp
/-- An operation that only reads leaves the world as it is. -/
theorem evOp_reads {B : Nat → Prop} (hL : ∀ T x, o.op = .load T x → ∀ ad, a.eval x = .pointer (some ad) → ¬ B ad.block) (hE : heapy o.op = true → ∀ b, ¬ B b) (hro : reads o.op = true) (h : Sim cx s a w ρ) (hr : interp out J (evOp P C s o K) = some r) (hK : Owed cx a o.dst out J r K N) : Ran P B o a w N := by
  have hr0 := hr
  unfold evOp at hr
  cases ho : o.op <;> rw [ho] at hr hro <;> simp only [reads] at hro <;> try (cases hro; done)
  all_goals simp only at hr
  case move x => exact move_sound (.inl ho) h hr0 hK
  case assign x => exact move_sound (.inr ho) h hr0 hK
  case pick => exact pick_sound ho h hr0 hK
  case load => exact load_op (hL _ _ ho) ho h hr0 hK
  case nilCheck => exact nilCheck_sound ho h hr0 hK
  case binOp => exact binOp_sound ho h hr0 hK
  case unOp => exact unOp_sound ho h hr0 hK
  case convert => exact convert_sound (hE (by rw [ho]; rfl)) ho h hr0 hK
  case slice => exact slice_sound ho h hr0 hK
  case fieldAddr => exact fieldAddr_sound ho h hr0 hK
  case field => exact field_sound ho h hr0 hK
  case indexAddr => exact indexAddr_sound ho h hr0 hK
  case index => exact index_sound ho h hr0 hK
  case extract => exact extract_sound ho h hr0 hK
  case build => exact build_sound ho h hr0 hK
  case call c =>
    cases hc : c.callee with
    | value f => rw [hc] at hro; cases hro
    | invoke _ _ => rw [hc] at hro; cases hro
    | builtin b =>
      rw [hc] at hr hro
      cases b <;> simp only at hr hro <;> try (cases hro; done)
      case len => exact len_sound (hE (by rw [ho]; simp [heapy, hc])) ho hc h hr0 hK
      case max => exact minmax_op (mx := true) ho hc h hr hK
      case min => exact minmax_op (mx := false) ho hc h hr hK
end
end Go.Rf
