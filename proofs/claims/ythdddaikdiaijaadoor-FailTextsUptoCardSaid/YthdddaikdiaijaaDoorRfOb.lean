/- Functions that are handed objects: what is laid aside, what comes back. -/
import Derived.Test.YthdddaikdiaijaaDoorRfP
namespace Go.Rf
open Go.RowKit (Below)
def wrapVal : List Value → Value
  | [x] => x
  | xs => .tuple xs.toArray
/-- What a call of a function does, whether it is entered or answered at once. -/
def Does (P : Program) (f : FuncId) (xs : List Value) (w : World) (R : Value → World → Prop) : Prop :=
  ((callFunc f xs.toArray).run P w = .ok (.enter f xs.toArray) w ∧ Calls P f xs.toArray w fun e w' => ∃ v, e = .returned v ∧ R v w') ∨
  ∃ v w', (callFunc f xs.toArray).run P w = .ok (.value v) w' ∧ R v w'
theorem Does.mono {P : Program} {f : FuncId} {xs : List Value} {w : World} {R R' : Value → World → Prop} (h : Does P f xs w R) (hR : ∀ v w', R v w' → R' v w') : Does P f xs w R' := by
  rcases h with ⟨h1, h2⟩ | ⟨v, w', h1, h2⟩
  · exact .inl ⟨h1, h2.mono fun e w' ⟨v, e1, h3⟩ => ⟨v, e1, hR v w' h3⟩⟩
  · exact .inr ⟨v, w', h1, hR v w' h2⟩
/-- How a call ends that hands objects back. -/
def End1 (cx : Cx) (h : Shape) (x : slotsDen h.slots) (y : memDen h.mem) (v : Value) (w : World) : Prop :=
  ∃ ys ρ, v = wrapVal ys ∧ ys.length = h.n ∧ Sim cx (encSt h x y) { tmps := ys.toArray, defers := [] } w ρ ∧ ∀ d u, cx.keep d = some u → ρ d = u
def Ends (cx : Cx) : (hs : List Shape) → OutD hs → Value → World → Prop
  | [], _, _, _ => False
  | [h], z, v, w => End1 cx h z.1 z.2 v w
  | h :: g :: r, z, v, w => match z with
    | .inl p => End1 cx h p.1 p.2 v w
    | .inr q => Ends cx (g :: r) q v w
def OE.ok (e : OE) : Bool := e.inp.ok && e.inp.mem.all fun x => x.2.isRow || decide (x.1 < 1000)
def actOf (n : Nat) (xs : List Value) : Act := { tmps := xs.toArray ++ Array.replicate (n - xs.toArray.size) undef, defers := [] }
/-- The call stands behind a world W0, whose blocks stay as they are. -/
def Cx.base (cx : Cx) (W0 : World) : Prop := Below W0.heap.size W0 cx.w0 ∧ ∀ b, cx.mine b → W0.heap.size ≤ b
def OOK (P : Program) (W0 : World) (e : OE) : Prop :=
  e.ok = true ∧ ∀ (cx : Cx) (w : World) (x : slotsDen e.inp.slots) (y : memDen e.inp.mem) (z : OutD e.outs) (xs : List Value) (ρ : Nat → Value), e.f x y = some z → cx.w0 = w → cx.base W0 → (∀ d u, cx.keep d = some u → e.keep.contains d = true ∧ ρ d = u) → xs.length ≤ e.inp.n →
    Sim cx (encSt e.inp x y) (actOf e.inp.n xs) w ρ → Does P e.id xs w (Ends cx e.outs z)
section
variable {P : Program} {cx cx' : Cx} {s s' o : St} {a a' : Act} {w w' : World} {ρ ρ' ρo : Nat → Value}
/-- Another frame over the same memory. -/
theorem Sim.refr (h : Sim cx s a w ρ) (hm : s'.mem = s.mem) (hsz : a'.tmps.size = s'.n) (hdf : a'.defers = []) (hfr : ∀ t, VR w (Own cx ρ s.mem) ρ s.mem (s'.fr.get t) (a'.tmps.getD t undef)) : Sim cx s' a' w ρ := by
  obtain ⟨_, _, be, fo, ge, no, ds, ob, _, pl, pn⟩ := h
  rw [← hm] at ge no ds ob pn hfr
  exact ⟨hsz, hdf, be, fo, ge, no, ds, ob, hfr, pl, pn⟩
/-- In another context. -/
theorem Sim.recx (h : Sim cx s a w ρ) (hown : cx'.own = cx.own) (hw0 : cx'.w0 = w) (hmine : ∀ d ob b, getM s.mem d = some ob → hb (ρ d) = some b → cx'.mine b) (hpl : ∀ d x, cx'.pin d = some x → d < 1000)
    (hpn : ∀ d x ob, cx'.pin d = some x → getM s.mem d = some ob → ρ d = x) : Sim cx' s a w ρ := by
  obtain ⟨sz, df, be, fo, ge, no, ds, ob, fr, pl, pn⟩ := h
  have ho : Own cx' ρ s.mem = Own cx ρ s.mem := by unfold Own; rw [hown]
  refine ⟨sz, df, by rw [hw0]; exact Bel.refl _ _, by rw [hown]; exact fo, fun d o b h1 h2 => ⟨.inr (hmine d o b h1 h2), (ge d o b h1 h2).2⟩, by rw [hown]; exact no, ds, by rw [ho]; exact ob, by rw [ho]; exact fr, hpl, hpn⟩
theorem Sim.nopin (h : Sim cx s a w ρ) : Sim { cx with pin := fun _ => none } s a w ρ :=
  ⟨h.sz, h.df, h.be, h.fo, h.ge, h.no, h.ds, h.ob, h.fr, fun _ _ h => (by cases h), fun _ _ _ h => (by cases h)⟩
/-- A key is laid aside: its block is another's. -/
theorem Sim.lay (h : Sim cx s a w ρ) (d : Nat) :
    Sim { cx with own := fun b => cx.own b ∨ ∃ o, getM s.mem d = some o ∧ hb (ρ d) = some b } (s.lay d) a w ρ ∧ (∀ e, getM (s.lay d).mem e = if e = d then none else (getM s.mem e).map (killO d)) := by
  have hget0 := getM_killM d s.mem
  obtain ⟨hk, hfr, hbx, _, _⟩ := h.kill d
  have hget : ∀ e, getM (s.lay d).mem e = if e = d then none else (getM s.mem e).map (killO d) := by
    intro e
    show getM (delM (killM d s.mem) d) e = _
    rw [getM_delM, hget0 e]
    by_cases he : e = d
    · rw [if_pos he, if_pos he.symm]
    · rw [if_neg he, if_neg (fun x => he x.symm)]
  refine ⟨?_, hget⟩
  have sub : ∀ e o, getM (s.lay d).mem e = some o → e ≠ d ∧ getM (killM d s.mem) e = some o := by
    intro e o he
    rw [hget e] at he
    by_cases hed : e = d
    · rw [if_pos hed] at he; cases he
    · rw [if_neg hed] at he; exact ⟨hed, by rw [hget0 e]; exact he⟩
  have hsome : ∀ o, getM (killM d s.mem) d = some o → ∃ o', getM s.mem d = some o' := by
    intro o he
    rw [hget0 d] at he
    cases ho : getM s.mem d with
    | none => rw [ho] at he; cases he
    | some o' => exact ⟨o', rfl⟩
  have hown : ∀ b, Own { cx with own := fun b => cx.own b ∨ ∃ o, getM s.mem d = some o ∧ hb (ρ d) = some b } ρ (s.lay d).mem b → Own cx ρ (killM d s.mem) b := by
    rintro b ((hx | ⟨o, ho, hb'⟩) | ⟨e, o, he, hb'⟩)
    · exact .inl hx
    · exact .inr ⟨d, killO d o, by rw [hget0 d, ho]; rfl, hb'⟩
    · exact .inr ⟨e, o, (sub e o he).2, hb'⟩
  have keep : ∀ e, e ≠ d → Keeps (killM d s.mem) (s.lay d).mem ρ ρ e := by
    intro e he
    refine Keeps.same rfl ?_
    rw [hget e, if_neg he, hget0 e]
  refine ⟨hk.sz, hk.df, hk.be, ?_, ?_, ?_, ?_, ?_, ?_, hk.pl, ?_⟩
  · rintro b (hx | ⟨o, ho, hb'⟩)
    · exact h.fo b hx
    · exact (h.ge d o b ho hb').2
  · exact fun e o b he hb' => hk.ge e o b (sub e o he).2 hb'
  · rintro e o b he hb' (hx | ⟨o2, ho2, hb2⟩)
    · exact hk.no e o b (sub e o he).2 hb' hx
    · have := hk.ds e d o (killO d o2) b (sub e o he).2 (by rw [hget0 d, ho2]; rfl) hb' hb2
      exact (sub e o he).1 this
  · exact fun e e' o o2 b he he' h1 h2 => hk.ds e e' o o2 b (sub e o he).2 (sub e' o2 he').2 h1 h2
  · intro e o he
    obtain ⟨hed, he'⟩ := sub e o he
    refine (hk.ob e o he').keep rfl (fun _ _ => rfl) (fun _ _ _ => rfl) (Nat.le_refl _) (fun b _ hb' => hown b hb') ?_
    intro v hv k hkk
    subst hv
    exact keep k (fun x => by subst x; rw [hbx e v he'] at hkk; cases hkk)
  · intro t
    exact (hk.fr t).keep (fun _ _ _ => rfl) (Nat.le_refl _) (fun b _ hb' => hown b hb') (fun k hkk => keep k (fun x => by
      subst x
      have h1 : ((s.lay k).fr.get t).has k = false := hfr t
      rw [h1] at hkk
      cases hkk))
  · exact fun e x o hp he => hk.pn e x o hp (sub e o he).2
/-- Keys are laid aside. -/
theorem Sim.layAll : ∀ (ds : List Nat) {cx : Cx} {s : St}, Sim cx s a w ρ →
    ∃ own', (∀ b, own' b ↔ cx.own b ∨ ∃ d o, d ∈ ds ∧ getM s.mem d = some o ∧ hb (ρ d) = some b) ∧ Sim { cx with own := own' } (s.layAll ds) a w ρ ∧
      (∀ e o, getM (s.layAll ds).mem e = some o → e ∉ ds ∧ ∃ o', getM s.mem e = some o')
  | [], cx, s, h => ⟨cx.own, fun b => ⟨.inl, fun x => x.elim id (fun ⟨_, _, hd, _⟩ => by cases hd)⟩, h, fun e o he => ⟨by simp, o, he⟩⟩
  | d :: ds, cx, s, h => by
    obtain ⟨h1, hget⟩ := h.lay d
    obtain ⟨own', h2, h3, h4⟩ := Sim.layAll ds h1
    refine ⟨own', fun b => ?_, h3, ?_⟩
    · rw [h2 b]
      constructor
      · rintro ((hx | ⟨o, ho, hb'⟩) | ⟨e, o, he, ho, hb'⟩)
        · exact .inl hx
        · exact .inr ⟨d, o, by simp, ho, hb'⟩
        · rw [hget e] at ho
          split at ho
          · cases ho
          · cases hs : getM s.mem e with
            | none => rw [hs] at ho; cases ho
            | some o' => exact .inr ⟨e, o', by simp [he], hs, hb'⟩
      · rintro (hx | ⟨e, o, he, ho, hb'⟩)
        · exact .inl (.inl hx)
        · by_cases hed : e = d
          · subst hed; exact .inl (.inr ⟨o, ho, hb'⟩)
          · rcases List.mem_cons.1 he with e2 | he
            · exact (hed e2).elim
            · exact .inr ⟨e, killO d o, he, by rw [hget e, if_neg hed, ho]; rfl, hb'⟩
    · intro e o he
      obtain ⟨h5, o', h6⟩ := h4 e o he
      rw [hget e] at h6
      split at h6
      · cases h6
      · rename_i hed
        cases hs : getM s.mem e with
        | none => rw [hs] at h6; cases h6
        | some o2 => exact ⟨by simp [hed, h5], o2, rfl⟩
/-! ### other names -/
theorem size_rn (f : Nat → Nat) : ∀ v : V, (v.rn f).size = v.size := by
  intro v
  induction v with
  | pair a b iha ihb => simp [V.rn, V.size, iha, ihb]
  | agg a ih => simp [V.rn, V.size, ih]
  | _ => rfl
theorem nth_rn (f : Nat → Nat) : ∀ {c : V} {j : Nat} {u : V}, nth c j = some u → nth (c.rn f) j = some (u.rn f) ∧ offN (c.rn f) j = offN c j := by
  intro c
  induction c with
  | pair a b _ ihb =>
    intro j u h
    cases j with
    | zero => simp only [nth] at h; cases h; exact ⟨rfl, rfl⟩
    | succ j =>
      simp only [nth] at h
      obtain ⟨h1, h2⟩ := ihb h
      exact ⟨h1, by simp only [V.rn, offN, h2, size_rn]⟩
  | unit => intro j u h; simp [nth] at h
  | _ =>
    intro j u h
    cases j with
    | zero => simp only [nth] at h; cases h; exact ⟨rfl, rfl⟩
    | succ j => simp [nth] at h
theorem path_rn (f : Nat → Nat) : ∀ (p : List PS) {v : V} {off : Nat}, PathAt p v off → PathAt p (v.rn f) off
  | [], _, _, h => h
  | .fld j :: p, v, off, ⟨c, u, o, e1, hn, ho, hp⟩ => by
    subst e1
    obtain ⟨h1, h2⟩ := nth_rn f hn
    exact ⟨_, _, o, rfl, h1, by rw [h2, ho], path_rn f p hp⟩
  | .idx i :: p, v, off, ⟨n, s, k, o, e1, h⟩ => by
    subst e1
    exact ⟨n, s, k, o, rfl, h⟩
section
variable {own own' : Nat → Prop} {m m3 : Mem} {f : Nat → Nat} {ρ3 : Nat → Value}
theorem FR.rn (ho : ∀ b, own' b → own b) (hm : ∀ k ob, getM m k = some ob → getM m3 (f k) = some (ob.rn f) ∧ ρ3 (f k) = ρ k) : ∀ {v : V} {cs : List Value}, FR w own ρ m v cs → FR w own' ρ3 m3 (v.rn f) cs := by
  intro v
  induction v with
  | pair a b iha ihb => rintro cs ⟨c1, c2, e1, h1, h2⟩; exact ⟨c1, c2, e1, iha h1, ihb h2⟩
  | agg a ih => intro cs h; exact ih h
  | rs k =>
    rintro cs ⟨e1, E, t, l, h⟩
    obtain ⟨h1, h2⟩ := hm k _ h
    exact ⟨by rw [h2]; exact e1, E, t, l, h1⟩
  | mp k =>
    rintro cs ⟨r, hr, e1, K, E, k', t, l, h⟩
    obtain ⟨h1, h2⟩ := hm k _ h
    exact ⟨r, by rw [h2]; exact hr, e1, K, E, k', t, l, h1⟩
  | ptr k p =>
    rintro cs ⟨b, off, v, hr, h, hp, e1⟩
    obtain ⟨h1, h2⟩ := hm k _ h
    exact ⟨b, off, v.rn f, by rw [h2]; exact hr, h1, path_rn f p hp, e1⟩
  | eptr k i p =>
    rintro cs ⟨E, t, l, b, cap, off, h, hr, h0, h1, hp, e1⟩
    obtain ⟨h2, h3⟩ := hm k _ h
    exact ⟨E, t, l, b, cap, off, h2, by rw [h3]; exact hr, h0, h1, hp, e1⟩
  | sptr k u ih =>
    rintro cs ⟨b, off, us, e1, hb', hlt, hu, hc⟩
    exact ⟨b, off, us, e1, fun hx => hb' (ho b hx), hlt, ih hu, hc⟩
  | tup a _ => intro cs h; exact h.elim
  | any => intro cs h; exact h.elim
  | undef => intro cs h; exact h.elim
  | dead => intro cs h; exact h
  | int k n => intro cs h; exact h
  | bool b => intro cs h; exact h
  | str b => intro cs h; exact h
  | nils => intro cs h; exact h
  | nilp => intro cs h; exact h
  | fn g => intro cs h; exact h
  | ifc b => intro cs h; exact h
  | unit => intro cs h; exact h
  | arr n s k => intro cs h; exact DR.keep (t := .arr n s) (fun _ _ _ => rfl) (Nat.le_refl _) (fun b _ h => ho b h) h
  | sl F s k => intro cs h; exact DR.keep (t := .sl F s) (fun _ _ _ => rfl) (Nat.le_refl _) (fun b _ h => ho b h) h
theorem V1.rn (ho : ∀ b, own' b → own b) (hm : ∀ k ob, getM m k = some ob → getM m3 (f k) = some (ob.rn f) ∧ ρ3 (f k) = ρ k) {v : V} {x : Value} (h : V1 w own ρ m v x) : V1 w own' ρ3 m3 (v.rn f) x := by
  cases v
  case any => trivial
  case undef => exact h
  case agg c => obtain ⟨cs, e1, hf⟩ := h; exact ⟨cs, e1, FR.rn ho hm (v := .agg c) hf⟩
  case arr n t l => obtain ⟨cs, e1, hf⟩ := h; exact ⟨cs, e1, FR.rn ho hm (v := .arr n t l) hf⟩
  case tup c => exact (show False from h).elim
  case unit => exact FR.rn (w := w) (ρ := ρ) (own := own) (own' := own') (m := m) (m3 := m3) (f := f) (ρ3 := ρ3) ho hm (v := .unit) (cs := [x]) h
  case pair a b => exact FR.rn (w := w) (own := own) (cs := [x]) ho hm (v := .pair a b) h
  case dead => exact h
  case int => exact h
  case bool => exact h
  case str => exact h
  case nils => exact h
  case nilp => exact h
  case fn => exact h
  case ifc => exact h
  case sl F t l => exact FR.rn (w := w) (own := own) (cs := [x]) ho hm (v := .sl F t l) h
  case rs k => exact FR.rn (w := w) (own := own) (cs := [x]) ho hm (v := .rs k) h
  case mp k => exact FR.rn (w := w) (own := own) (cs := [x]) ho hm (v := .mp k) h
  case ptr k p => exact FR.rn (w := w) (own := own) (cs := [x]) ho hm (v := .ptr k p) h
  case eptr k i p => exact FR.rn (w := w) (own := own) (cs := [x]) ho hm (v := .eptr k i p) h
  case sptr k u => exact FR.rn (w := w) (own := own) (cs := [x]) ho hm (v := .sptr k u) h
/-! ### what stays beside a call -/
structure Keeps2 (m m' : Mem) (ρ ρ' : Nat → Value) (d : Nat) : Prop where
  h : ρ' d = ρ d
  box : ∀ v, getM m d = some (.box v) → ∃ v', getM m' d = some (.box v')
  map : ∀ K E k t l, getM m d = some (.map K E k t l) → ∃ l', getM m' d = some (.map K E k t l')
theorem FR.shift {D R : List Nat} (hw : ∀ b, b < w.heap.size → ¬ own b → w'.heap[b]? = w.heap[b]?) (hs : w.heap.size ≤ w'.heap.size) (ho : ∀ b, b < w.heap.size → own' b → own b)
    (h1 : ∀ d, D.contains d = false → ∀ ob, getM m d = some ob → Keeps m m3 ρ ρ3 d) (h2 : ∀ d, D.contains d = true → ∀ ob, getM m d = some ob → (∀ E t l, ob ≠ .row E t l) → Keeps2 m m3 ρ ρ3 d) (h3 : ∀ d, D.contains d = true → R.contains d = true → ∀ E t l, getM m d = some (.row E t l) → ρ3 d = ρ d ∧ ∃ l', getM m3 d = some (.row E t l')) :
    ∀ {v : V} {cs : List Value}, v.pure D R = true → FR w own ρ m v cs → FR w' own' ρ3 m3 v cs := by
  intro v
  induction v with
  | pair a b iha ihb =>
    rintro cs hp ⟨c1, c2, e, x1, x2⟩
    simp only [V.pure, Bool.and_eq_true] at hp
    exact ⟨c1, c2, e, iha hp.1 x1, ihb hp.2 x2⟩
  | agg a ih => intro cs hp h; exact ih hp h
  | rs k =>
    intro cs hp h
    have h' := h
    obtain ⟨e0, E0, t0, l0, hm⟩ := h'
    cases hk : D.contains k with
    | false => exact FR.keep hw hs ho (v := .rs k) (fun d hd => by simp only [V.has, beq_iff_eq] at hd; subst hd; exact h1 d hk _ hm) h
    | true =>
      have hR : R.contains k = true := by
        simp only [V.pure, hk, Bool.not_true, Bool.false_or] at hp
        exact hp
      obtain ⟨x1, l', x2⟩ := h3 k hk hR E0 t0 l0 hm
      exact ⟨by rw [x1]; exact e0, E0, t0, l', x2⟩
  | eptr k i p =>
    intro cs hp h
    have hk : D.contains k = false := by simpa [V.pure] using hp
    have h' := h
    obtain ⟨_, _, _, _, _, _, hm, _⟩ := h'
    exact FR.keep hw hs ho (v := .eptr k i p) (fun d hd => by simp only [V.has, beq_iff_eq] at hd; subst hd; exact h1 d hk _ hm) h
  | mp k =>
    rintro cs _ ⟨r, hr, e1, K, E, k', t, l, hm⟩
    cases hk : D.contains k with
    | false =>
      exact FR.keep hw hs ho (v := .mp k) (fun d hd => by simp only [V.has, beq_iff_eq] at hd; subst hd; exact h1 d hk _ hm) ⟨r, hr, e1, K, E, k', t, l, hm⟩
    | true =>
      have := h2 k hk _ hm (by intro _ _ _ e; cases e)
      obtain ⟨l', h3⟩ := this.map _ _ _ _ _ hm
      exact ⟨r, by rw [this.h]; exact hr, e1, K, E, k', t, l', h3⟩
  | ptr k p =>
    intro cs hp h
    cases hk : D.contains k with
    | false =>
      have h' := h
      obtain ⟨_, _, _, _, hm, _⟩ := h'
      exact FR.keep hw hs ho (v := .ptr k p) (fun d hd => by simp only [V.has, beq_iff_eq] at hd; subst hd; exact h1 d hk _ hm) h
    | true =>
      obtain ⟨b, off, v, hr, hm, hpp, e1⟩ := h
      have hp0 : p = [] := by
        simp only [V.pure, hk, Bool.not_true, Bool.false_or, List.isEmpty_iff] at hp
        exact hp
      subst hp0
      have := h2 k hk _ hm (by intro _ _ _ e; cases e)
      obtain ⟨v', h3⟩ := this.box _ hm
      exact ⟨b, off, v', by rw [this.h]; exact hr, h3, hpp, e1⟩
  | sptr k u ih =>
    rintro cs hp ⟨b, off, us, e1, hb', hlt, hu, hc⟩
    exact ⟨b, off, us, e1, fun hx => hb' (ho b hlt hx), Nat.lt_of_lt_of_le hlt hs, ih hp hu, hc.keep (hw b hlt hb')⟩
  | tup a _ => intro cs _ h; exact h.elim
  | any => intro cs _ h; exact h.elim
  | undef => intro cs _ h; exact h.elim
  | dead => intro cs _ h; exact h
  | int k n => intro cs _ h; exact h
  | bool b => intro cs _ h; exact h
  | str b => intro cs _ h; exact h
  | nils => intro cs _ h; exact h
  | nilp => intro cs _ h; exact h
  | fn g => intro cs _ h; exact h
  | ifc b => intro cs _ h; exact h
  | unit => intro cs _ h; exact h
  | arr n s k => intro cs _ h; exact DR.keep hw hs ho (t := .arr n s) h
  | sl F s k => intro cs _ h; exact DR.keep hw hs ho (t := .sl F s) h
theorem V1.shift {D R : List Nat} (hw : ∀ b, b < w.heap.size → ¬ own b → w'.heap[b]? = w.heap[b]?) (hs : w.heap.size ≤ w'.heap.size) (ho : ∀ b, b < w.heap.size → own' b → own b)
    (h1 : ∀ d, D.contains d = false → ∀ ob, getM m d = some ob → Keeps m m3 ρ ρ3 d) (h2 : ∀ d, D.contains d = true → ∀ ob, getM m d = some ob → (∀ E t l, ob ≠ .row E t l) → Keeps2 m m3 ρ ρ3 d) (h3 : ∀ d, D.contains d = true → R.contains d = true → ∀ E t l, getM m d = some (.row E t l) → ρ3 d = ρ d ∧ ∃ l', getM m3 d = some (.row E t l')) {v : V} {x : Value} (hp : v.pure D R = true) (h : V1 w own ρ m v x) :
    V1 w' own' ρ3 m3 v x := by
  cases v
  case any => trivial
  case undef => exact h
  case agg c => obtain ⟨cs, e, hf⟩ := h; exact ⟨cs, e, FR.shift hw hs ho h1 h2 h3 hp hf⟩
  case arr n t l => obtain ⟨cs, e, hf⟩ := h; exact ⟨cs, e, FR.shift hw hs ho h1 h2 h3 hp hf⟩
  all_goals exact FR.shift hw hs ho h1 h2 h3 hp h
theorem TR.shift {D R : List Nat} (hw : ∀ b, b < w.heap.size → ¬ own b → w'.heap[b]? = w.heap[b]?) (hs : w.heap.size ≤ w'.heap.size) (ho : ∀ b, b < w.heap.size → own' b → own b)
    (h1 : ∀ d, D.contains d = false → ∀ ob, getM m d = some ob → Keeps m m3 ρ ρ3 d) (h2 : ∀ d, D.contains d = true → ∀ ob, getM m d = some ob → (∀ E t l, ob ≠ .row E t l) → Keeps2 m m3 ρ ρ3 d) (h3 : ∀ d, D.contains d = true → R.contains d = true → ∀ E t l, getM m d = some (.row E t l) → ρ3 d = ρ d ∧ ∃ l', getM m3 d = some (.row E t l')) : ∀ {v : V} {xs : List Value}, v.pure D R = true → TR w own ρ m v xs →
    TR w' own' ρ3 m3 v xs := by
  intro v
  induction v with
  | unit => intro xs _ h; exact h
  | pair a b _ ihb =>
    rintro xs hp ⟨y, ys, e, x1, x2⟩
    simp only [V.pure, Bool.and_eq_true] at hp
    exact ⟨y, ys, e, x1.shift hw hs ho h1 h2 h3 hp.1, ihb hp.2 x2⟩
  | _ => intro xs _ h; exact h.elim
theorem VR.shift {D R : List Nat} (hw : ∀ b, b < w.heap.size → ¬ own b → w'.heap[b]? = w.heap[b]?) (hs : w.heap.size ≤ w'.heap.size) (ho : ∀ b, b < w.heap.size → own' b → own b)
    (h1 : ∀ d, D.contains d = false → ∀ ob, getM m d = some ob → Keeps m m3 ρ ρ3 d) (h2 : ∀ d, D.contains d = true → ∀ ob, getM m d = some ob → (∀ E t l, ob ≠ .row E t l) → Keeps2 m m3 ρ ρ3 d) (h3 : ∀ d, D.contains d = true → R.contains d = true → ∀ E t l, getM m d = some (.row E t l) → ρ3 d = ρ d ∧ ∃ l', getM m3 d = some (.row E t l')) {v : V} {x : Value} (hp : v.pure D R = true) (h : VR w own ρ m v x) :
    VR w' own' ρ3 m3 v x := by
  cases v
  case tup c => obtain ⟨xs, e, ht⟩ := h; exact ⟨xs, e, TR.shift hw hs ho h1 h2 h3 hp ht⟩
  all_goals exact V1.shift (x := x) hw hs ho h1 h2 h3 hp h
end
theorem getM_dropM (D : List Nat) : ∀ (m : Mem) (e : Nat), getM (dropM D m) e = if D.contains e then none else getM m e
  | [], e => by simp [dropM, getM]
  | (d, o) :: m, e => by
    simp only [dropM]
    have ih := getM_dropM D m e
    split
    · rename_i hd
      rw [ih]
      simp only [getM]
      by_cases hde : d = e
      · subst hde; simp only [hd, if_true]
      · rw [if_neg hde]
    · rename_i hd
      simp only [getM]
      by_cases hde : d = e
      · subst hde; rw [hd]; simp
      · simp only [hde, if_false]; exact ih
theorem getM_append : ∀ (m m' : Mem) (e : Nat), getM (m ++ m') e = match getM m e with | some o => some o | none => getM m' e
  | [], _, _ => rfl
  | (d, o) :: m, m', e => by
    simp only [List.cons_append, getM]
    by_cases h : d = e
    · simp [h]
    · simp only [h, if_false]; exact getM_append m m' e
theorem boxesPure_out {D R : List Nat} : ∀ {m : Mem} {e : Nat} {v : V}, boxesPure D R m = true → getM m e = some (.box v) → v.pure D R = true
  | [], _, _, _, h => by cases h
  | (k, .box u) :: m, e, v, hp, h => by
    simp only [boxesPure, Bool.and_eq_true] at hp
    simp only [getM] at h
    split at h
    · cases h; exact hp.1
    · exact boxesPure_out hp.2 h
  | (k, .row _ _ _) :: m, e, v, hp, h => by
    simp only [boxesPure] at hp
    simp only [getM] at h
    split at h
    · cases h
    · exact boxesPure_out hp h
  | (k, .map _ _ _ _ _) :: m, e, v, hp, h => by
    simp only [boxesPure] at hp
    simp only [getM] at h
    split at h
    · cases h
    · exact boxesPure_out hp h
theorem mem_of_getM : ∀ {m : Mem} {k : Nat} {o : Obj}, getM m k = some o → (k, o) ∈ m
  | (d, x) :: m, k, o, h => by
    simp only [getM] at h
    split at h
    · rename_i e; cases h; subst e; simp
    · exact List.mem_cons_of_mem _ (mem_of_getM h)
  | [], _, _, h => by cases h
theorem getM_relM {f g : Nat → Nat} : ∀ {m : Mem}, (∀ x ∈ m, g (f x.1) = x.1) → (∀ k o, getM m k = some o → getM (relM f m) (f k) = some (o.rn f)) ∧ (∀ j o, getM (relM f m) j = some o → f (g j) = j ∧ ∃ o', getM m (g j) = some o' ∧ o = o'.rn f)
  | [], _ => ⟨fun _ _ h => (by cases h), fun _ _ h => (by cases h)⟩
  | (d, x) :: m, hg => by
    have hgd := hg (d, x) (by simp)
    obtain ⟨h1, h2⟩ := getM_relM (f := f) (g := g) (m := m) (fun y hy => hg y (by simp [hy]))
    refine ⟨fun k o h => ?_, fun j o h => ?_⟩
    · simp only [getM] at h
      simp only [relM, getM]
      split at h
      · rename_i e; cases h; subst e; simp
      · rename_i hne
        have hk := hg (k, o) (List.mem_cons_of_mem _ (mem_of_getM h))
        rw [if_neg (fun e => hne (by
          have h6 : g (f d) = d := hgd
          have h7 : g (f k) = k := hk
          rw [← h6, e, h7]))]
        exact h1 k o h
    · simp only [relM, getM] at h
      split at h
      · rename_i e
        cases h
        subst e
        exact ⟨by rw [hgd], x, by rw [hgd]; simp [getM], rfl⟩
      · rename_i hne
        obtain ⟨h3, o', h4, h5⟩ := h2 j o h
        refine ⟨h3, o', ?_, h5⟩
        simp only [getM]
        rw [if_neg (fun e => hne (by rw [e]; exact h3))]
        exact h4
theorem fresh_gt : ∀ {m : Mem} {k : Nat} {o : Obj}, getM m k = some o → k < freshM m
  | (d, x) :: m, k, o, h => by
    simp only [getM] at h
    simp only [freshM]
    split at h
    · rename_i e; subst e; omega
    · have := fresh_gt h; omega
  | [], _, _, h => by cases h
theorem fresh_ge : ∀ m : Mem, 1000 ≤ freshM m
  | [] => Nat.le_refl _
  | (_, _) :: m => by have := fresh_ge m; simp only [freshM]; omega
/-- Behind a call: what came back, and what was laid aside. -/
theorem merge {D R : List Nat} {f g : Nat → Nat} {N : Nat} {a2 : Act} (h : Sim cx s a w ρ) (ho : Sim cx' o a2 w' ρo) (hw0 : cx'.w0 = w)
    (hown : ∀ b, cx'.own b ↔ cx.own b ∨ ∃ d ob, D.contains d = false ∧ getM s.mem d = some ob ∧ hb (ρ d) = some b)
    (hmine : ∀ b, cx'.mine b → ∃ d ob, D.contains d = true ∧ getM s.mem d = some ob ∧ hb (ρ d) = some b)
    (hgf : ∀ x ∈ o.mem, g (f x.1) = x.1) (hN : N = freshM s.mem)
    (hf1 : ∀ x ∈ o.mem, (D.contains (f x.1) = true ∧ (∃ ob, getM s.mem (f x.1) = some ob) ∧ (1000 ≤ f x.1 ∨ ρo (g (f x.1)) = ρ (f x.1))) ∨ (D.contains (f x.1) = false ∧ N ≤ f x.1))
    (hD : ∀ d, D.contains d = true → ∀ ob, getM s.mem d = some ob → sameKind ob (getM (relM f o.mem) d) = true ∧ (ob.isRow = true ∨ ρo (g d) = ρ d))
    (hpure : boxesPure D R (dropM D s.mem) = true)
    (hR : ∀ d, D.contains d = true → R.contains d = true → ∀ E t l, getM s.mem d = some (.row E t l) → ρo (g d) = ρ d ∧ ∃ l', getM (relM f o.mem) d = some (.row E t l')) :
    Sim cx { s with fr := s.fr.map (fixV D R), mem := relM f o.mem ++ dropM D s.mem } a w' (fun k => match getM (relM f o.mem) k with | some _ => ρo (g k) | none => ρ k) ∧
    (∀ k ob, getM o.mem k = some ob → getM (relM f o.mem ++ dropM D s.mem) (f k) = some (ob.rn f)) ∧
    (∀ b, Own cx (fun k => match getM (relM f o.mem) k with | some _ => ρo (g k) | none => ρ k) (relM f o.mem ++ dropM D s.mem) b → Own cx' ρo o.mem b) ∧
    (∀ k ob, getM o.mem k = some ob → (match getM (relM f o.mem) (f k) with | some _ => ρo (g (f k)) | none => ρ (f k)) = ρo k) := by
  obtain ⟨r1, r2⟩ := getM_relM hgf
  generalize hρ3 : (fun k => match getM (relM f o.mem) k with | some _ => ρo (g k) | none => ρ k) = ρ3
  have e3 : ∀ k, ρ3 k = match getM (relM f o.mem) k with | some _ => ρo (g k) | none => ρ k := fun k => by rw [← hρ3]
  generalize hm3 : relM f o.mem ++ dropM D s.mem = m3
  have g3 : ∀ k, getM m3 k = match getM (relM f o.mem) k with | some ob => some ob | none => if D.contains k then none else getM s.mem k := by
    intro k
    rw [← hm3, getM_append]
    cases getM (relM f o.mem) k with
    | some _ => rfl
    | none => exact getM_dropM D s.mem k
  -- of which kind a key is
  have kind : ∀ k ob, getM m3 k = some ob → (∃ o', getM o.mem (g k) = some o' ∧ ob = o'.rn f ∧ f (g k) = k ∧ ρ3 k = ρo (g k) ∧ getM (relM f o.mem) k = some ob) ∨ (getM (relM f o.mem) k = none ∧ D.contains k = false ∧ getM s.mem k = some ob ∧ ρ3 k = ρ k) := by
    intro k ob hk
    rw [g3 k] at hk
    cases hr : getM (relM f o.mem) k with
    | some o2 =>
      rw [hr] at hk
      cases hk
      obtain ⟨h1, o', h2, h3⟩ := r2 k _ hr
      exact .inl ⟨o', h2, h3, h1, by rw [e3 k, hr], rfl⟩
    | none =>
      rw [hr] at hk
      simp only at hk
      split at hk
      · cases hk
      · rename_i hd
        exact .inr ⟨rfl, by simpa using hd, hk, by rw [e3 k, hr]⟩
  have out3 : ∀ k ob, getM o.mem k = some ob → getM m3 (f k) = some (ob.rn f) ∧ ρ3 (f k) = ρo k := by
    intro k ob hk
    have h1 := r1 k ob hk
    refine ⟨by rw [g3, h1], ?_⟩
    rw [e3, h1, hgf _ (mem_of_getM hk)]
  have rest3 : ∀ k, D.contains k = false → ∀ ob, getM s.mem k = some ob → getM (relM f o.mem) k = none := by
    intro k hk ob hs
    cases hr : getM (relM f o.mem) k with
    | none => rfl
    | some o2 =>
      obtain ⟨h1, o', h2, _⟩ := r2 k _ hr
      rcases hf1 _ (mem_of_getM h2) with ⟨h3, _⟩ | ⟨_, h3⟩
      · simp only [h1] at h3
        rw [hk] at h3
        cases h3
      · simp only [h1] at h3
        have := fresh_gt hs
        omega
  have ownTo : ∀ b, Own cx ρ3 m3 b → Own cx' ρo o.mem b := by
    rintro b (hx | ⟨k, ob, hk, hb'⟩)
    · exact .inl ((hown b).2 (.inl hx))
    · rcases kind k ob hk with ⟨o', h1, _, _, h2, _⟩ | ⟨_, h1, h2, h3⟩
      · exact .inr ⟨g k, o', h1, by rw [← h2]; exact hb'⟩
      · exact .inl ((hown b).2 (.inr ⟨k, ob, h1, h2, by rw [← h3]; exact hb'⟩))
  have okTo : ∀ b, b < w.heap.size → cx'.ok b → cx.ok b ∧ ∃ d ob, D.contains d = true ∧ getM s.mem d = some ob ∧ hb (ρ d) = some b := by
    rintro b hlt (hx | hx)
    · rw [hw0] at hx; omega
    · obtain ⟨d, ob, h1, h2, h3⟩ := hmine b hx
      exact ⟨(h.ge d ob b h2 h3).1, d, ob, h1, h2, h3⟩
  have hbel : Bel cx'.ok w w' := by have := ho.be; rw [hw0] at this; exact this
  have ownOld : ∀ b, b < w.heap.size → Own cx ρ3 m3 b → Own cx ρ s.mem b := by
    intro b hlt hb'
    rcases hb' with hx | ⟨k, ob, hk, hb'⟩
    · exact .inl hx
    · rcases kind k ob hk with ⟨o', h1, _, _, h2, _⟩ | ⟨_, _, h2, h3⟩
      · rw [h2] at hb'
        obtain ⟨_, d, ob2, _, h4, h5⟩ := okTo b hlt (ho.ge _ _ b h1 hb').1
        exact .inr ⟨d, ob2, h4, h5⟩
      · exact .inr ⟨k, ob, h2, by rw [← h3]; exact hb'⟩
  have hwk : ∀ b, b < w.heap.size → ¬ Own cx ρ s.mem b → w'.heap[b]? = w.heap[b]? := by
    intro b hlt hno
    refine hbel.block b hlt fun hok => hno ?_
    obtain ⟨_, d, ob, _, h1, h2⟩ := okTo b hlt hok
    exact .inr ⟨d, ob, h1, h2⟩
  have k1 : ∀ d, D.contains d = false → ∀ ob, getM s.mem d = some ob → Keeps s.mem m3 ρ ρ3 d := by
    intro d hd ob hs
    have hr := rest3 d hd ob hs
    exact Keeps.same (by rw [e3 d, hr]) (by rw [g3 d, hr, hd, hs]; rfl)
  have k2 : ∀ d, D.contains d = true → ∀ ob, getM s.mem d = some ob → (∀ E t l, ob ≠ .row E t l) → Keeps2 s.mem m3 ρ ρ3 d := by
    intro d hd ob hs hnr
    obtain ⟨h1, h2⟩ := hD d hd ob hs
    have hrow : ob.isRow = false := by
      cases ob with
      | row E t l => exact (hnr E t l rfl).elim
      | box v => rfl
      | map K E k t l => rfl
    have hρ : ρo (g d) = ρ d := h2.resolve_left (by rw [hrow]; simp)
    cases hr : getM (relM f o.mem) d with
    | none =>
      rw [hr] at h1
      cases ob with
      | row E t l => exact (hnr E t l rfl).elim
      | box v => simp [sameKind] at h1
      | map K E k t l => simp [sameKind] at h1
    | some o2 =>
      refine ⟨by rw [e3 d, hr]; exact hρ, fun v hv => ?_, fun K E k t l hv => ?_⟩
      · rw [hs] at hv
        cases hv
        rw [hr] at h1
        cases o2 with
        | box v' => exact ⟨v', by rw [g3 d, hr]⟩
        | row _ _ _ => simp [sameKind] at h1
        | map _ _ _ _ _ => simp [sameKind] at h1
      · rw [hs] at hv
        cases hv
        rw [hr] at h1
        cases o2 with
        | box v' => simp [sameKind] at h1
        | row _ _ _ => simp [sameKind] at h1
        | map K' E' k' t' l' =>
          simp only [sameKind, Bool.and_eq_true, decide_eq_true_eq] at h1
          obtain ⟨⟨rfl, rfl⟩, rfl, rfl⟩ := h1
          exact ⟨l', by rw [g3 d, hr]⟩
  have k3 : ∀ d, D.contains d = true → R.contains d = true → ∀ E t l, getM s.mem d = some (.row E t l) → ρ3 d = ρ d ∧ ∃ l', getM m3 d = some (.row E t l') := by
    intro d hd hr E t l hs
    obtain ⟨h1, l', h2⟩ := hR d hd hr E t l hs
    exact ⟨by rw [e3 d, h2]; exact h1, l', by rw [g3 d, h2]⟩
  refine ⟨⟨h.sz, h.df, ?_, ?_, ?_, ?_, ?_, ?_, ?_, h.pl, ?_⟩, fun k ob hk => (out3 k ob hk).1, ownTo, ?_⟩
  · exact h.be.trans (hbel.mono fun k hlt hk => (okTo k hlt hk).1)
  · exact fun b hx => Nat.lt_of_lt_of_le (h.fo b hx) hbel.size
  · intro k ob b hk hb'
    rcases kind k ob hk with ⟨o', h1, _, _, h2, _⟩ | ⟨_, _, h2, h3⟩
    · rw [h2] at hb'
      have := ho.ge _ _ b h1 hb'
      refine ⟨?_, this.2⟩
      by_cases hlt : b < w.heap.size
      · exact (okTo b hlt this.1).1
      · have hb := h.be.size
        exact .inl (by omega)
    · rw [h3] at hb'
      have := h.ge k ob b h2 hb'
      exact ⟨this.1, Nat.lt_of_lt_of_le this.2 hbel.size⟩
  · intro k ob b hk hb' hx
    rcases kind k ob hk with ⟨o', h1, _, _, h2, _⟩ | ⟨_, _, h2, h3⟩
    · rw [h2] at hb'
      exact ho.no _ _ b h1 hb' ((hown b).2 (.inl hx))
    · rw [h3] at hb'
      exact h.no k ob b h2 hb' hx
  · intro k k' ob ob2 b hk hk' hb1 hb2
    rcases kind k ob hk with ⟨o', h1, _, h0, h2, _⟩ | ⟨_, h1, h2, h3⟩
    · rw [h2] at hb1
      rcases kind k' ob2 hk' with ⟨o2', i1, _, i0, i2, _⟩ | ⟨_, i1, i2, i3⟩
      · rw [i2] at hb2
        have := ho.ds _ _ _ _ b h1 i1 hb1 hb2
        rw [← h0, ← i0, this]
      · rw [i3] at hb2
        exact (ho.no _ _ b h1 hb1 ((hown b).2 (.inr ⟨k', ob2, i1, i2, hb2⟩))).elim
    · rw [h3] at hb1
      rcases kind k' ob2 hk' with ⟨o2', i1, _, i0, i2, _⟩ | ⟨_, i1, i2, i3⟩
      · rw [i2] at hb2
        exact (ho.no _ _ b i1 hb2 ((hown b).2 (.inr ⟨k, ob, h1, h2, hb1⟩))).elim
      · rw [i3] at hb2
        exact h.ds k k' ob ob2 b h2 i2 hb1 hb2
  · intro k ob hk
    rcases kind k ob hk with ⟨o', h1, e1, h0, h2, _⟩ | ⟨_, h1, h2, h3⟩
    · have hor := ho.ob _ _ h1
      subst e1
      cases o' with
      | box v =>
        obtain ⟨b, cs, T, j1, j2, j3, j4⟩ := hor
        exact ⟨b, cs, T, by rw [h2]; exact j1, j2, FR.rn ownTo out3 j3, fun U hU => j4 U (by rw [← hU]; exact (tag_rn _ v).symm)⟩
      | row E t l =>
        obtain ⟨j1, css, j2, j3⟩ := hor
        exact ⟨j1, css, by rw [h2]; exact j2, j3.mono fun _ _ hx => DR.keep (fun _ _ _ => rfl) (Nat.le_refl _) (fun b _ h => ownTo b h) hx⟩
      | map K E k' t l =>
        obtain ⟨r, es, ck, j1, j2, j3⟩ := hor
        exact ⟨r, es, ck, by rw [h2]; exact j1, j2, j3.keep (fun _ _ _ => rfl) (Nat.le_refl _) (fun b _ h => ownTo b h)⟩
    · have hor := h.ob k ob h2
      have hblk : ∀ b, hb (ρ k) = some b → w'.heap[b]? = w.heap[b]? := by
        intro b hb'
        have hlt := (h.ge k ob b h2 hb').2
        refine hbel.block b hlt fun hok => ?_
        obtain ⟨_, d, ob2, i1, i2, i3⟩ := okTo b hlt hok
        have := h.ds k d ob ob2 b h2 i2 hb' i3
        subst this
        rw [h1] at i1
        cases i1
      cases ob with
      | box v =>
        obtain ⟨b, cs, T, j1, j2, j3, j4⟩ := hor
        have hp : v.pure D R = true := boxesPure_out hpure (by rw [getM_dropM, h1]; exact h2)
        exact ⟨b, cs, T, by rw [h3]; exact j1, by rw [hblk b (by rw [j1]; rfl)]; exact j2, FR.shift hwk hbel.size ownOld k1 k2 k3 hp j3, j4⟩
      | row E t l => exact OR.keep hor h3 hblk hwk hbel.size ownOld (fun v hv => by cases hv) (m' := m3)
      | map K E k' t l => exact OR.keep hor h3 hblk hwk hbel.size ownOld (fun v hv => by cases hv) (m' := m3)
  · intro t
    show VR _ _ _ _ ((s.fr.map (fixV D R)).get t) _
    rw [Fr.get_map _ rfl]
    unfold fixV
    cases hp : (s.fr.get t).pure D R with
    | false => trivial
    | true => exact VR.shift hwk hbel.size ownOld k1 k2 k3 hp (h.fr t)
  · intro k x ob hp hk
    rcases kind k ob hk with ⟨o', h1, _, h0, h2, hr⟩ | ⟨_, _, h2, h3⟩
    · have hlt := h.pl k x hp
      rcases hf1 _ (mem_of_getM h1) with ⟨_, h3, h4⟩ | ⟨_, h4⟩
      · simp only [h0] at h3 h4
        rcases h4 with h4 | h4
        · omega
        · rw [h2, h4]
          obtain ⟨ob2, hs⟩ := h3
          exact h.pn k x ob2 hp hs
      · simp only [h0] at h4
        have := fresh_ge s.mem
        omega
    · rw [h3]
      exact h.pn k x ob hp h2
  · intro k ob hk
    rw [r1 k ob hk]
    simp only
    rw [hgf _ (mem_of_getM hk)]
end
end Go.Rf
