/- Keys under other names. -/
import Derived.Test.YthdddaikdiaijaaDoorRfE
namespace Go.Rf
theorem sw_sw (d e k : Nat) : sw d e (sw d e k) = k := by
  unfold sw
  by_cases h1 : k = d
  · subst h1
    by_cases h2 : e = k
    · simp [h2]
    · simp [h2]
  · by_cases h2 : k = e
    · subst h2; simp [h1]
    · simp [h1, h2]
theorem sw_inj {d e k k' : Nat} (h : sw d e k = sw d e k') : k = k' := by
  have := congrArg (sw d e) h
  rwa [sw_sw, sw_sw] at this
theorem getM_ren (d e : Nat) : ∀ (m : Mem) (k : Nat), getM (renM d e m) (sw d e k) = (getM m k).map (Obj.ren d e)
  | [], _ => rfl
  | (k', o) :: m, k => by
    simp only [renM, getM]
    by_cases h : k' = k
    · subst h; simp
    · rw [if_neg (fun x => h (sw_inj x)), if_neg h]
      exact getM_ren d e m k
theorem getM_ren' (d e : Nat) (m : Mem) (k : Nat) : getM (renM d e m) k = (getM m (sw d e k)).map (Obj.ren d e) := by
  have := getM_ren d e m (sw d e k)
  rwa [sw_sw] at this
theorem size_ren (d e : Nat) : ∀ v : V, (v.ren d e).size = v.size := by
  intro v
  induction v with
  | pair a b iha ihb => simp [V.ren, V.size, iha, ihb]
  | agg a ih => simp [V.ren, V.size, ih]
  | _ => rfl
theorem nth_ren (d e : Nat) : ∀ {c : V} {j : Nat} {u : V}, nth c j = some u → nth (c.ren d e) j = some (u.ren d e) ∧ offN (c.ren d e) j = offN c j := by
  intro c
  induction c with
  | pair a b _ ihb =>
    intro j u h
    cases j with
    | zero => simp only [nth] at h; cases h; exact ⟨rfl, rfl⟩
    | succ j =>
      simp only [nth] at h
      obtain ⟨h1, h2⟩ := ihb h
      exact ⟨h1, by simp only [V.ren, offN, h2, size_ren]⟩
  | unit => intro j u h; simp [nth] at h
  | _ =>
    intro j u h
    cases j with
    | zero => simp only [nth] at h; cases h; exact ⟨rfl, rfl⟩
    | succ j => simp [nth] at h
theorem path_ren (d e : Nat) : ∀ (p : List PS) {v : V} {off : Nat}, PathAt p v off → PathAt p (v.ren d e) off
  | [], _, _, h => h
  | .fld j :: p, v, off, ⟨c, u, o, e1, hn, ho, hp⟩ => by
    subst e1
    obtain ⟨h1, h2⟩ := nth_ren d e hn
    exact ⟨_, _, o, rfl, h1, by rw [h2, ho], path_ren d e p hp⟩
  | .idx i :: p, v, off, ⟨n, s, k, o, e1, h⟩ => by
    subst e1
    exact ⟨n, s, k, o, rfl, h⟩
section
variable {w : World} {own own' : Nat → Prop} {ρ : Nat → Value} {m : Mem} {d e : Nat}
theorem FR.ren (ho : ∀ b, own' b → own b) : ∀ {v : V} {cs : List Value}, FR w own ρ m v cs → FR w own' (fun k => ρ (sw d e k)) (renM d e m) (v.ren d e) cs := by
  intro v
  induction v with
  | pair a b iha ihb => rintro cs ⟨c1, c2, e1, h1, h2⟩; exact ⟨c1, c2, e1, iha h1, ihb h2⟩
  | agg a ih => intro cs h; exact ih h
  | rs k =>
    rintro cs ⟨e1, E, t, l, hm⟩
    exact ⟨by simp only [sw_sw]; exact e1, E, t, l, by rw [getM_ren, hm]; rfl⟩
  | mp k =>
    rintro cs ⟨r, hr, e1, K, E, k', t, l, hm⟩
    exact ⟨r, by simp only [sw_sw]; exact hr, e1, K, E, k', t, l, by rw [getM_ren, hm]; rfl⟩
  | ptr k p =>
    rintro cs ⟨b, off, v, hr, hm, hp, e1⟩
    exact ⟨b, off, v.ren d e, by simp only [sw_sw]; exact hr, by rw [getM_ren, hm]; rfl, path_ren d e p hp, e1⟩
  | eptr k i p =>
    rintro cs ⟨E, t, l, b, cap, off, hm, hr, h0, h1, hp, e1⟩
    exact ⟨E, t, l, b, cap, off, by rw [getM_ren, hm]; rfl, by simp only [sw_sw]; exact hr, h0, h1, hp, e1⟩
  | sptr k u ih =>
    rintro cs ⟨b, off, us, e1, hb', hlt, hu, hc⟩
    exact ⟨b, off, us, e1, fun hx => hb' (ho b hx), hlt, ih hu, hc⟩
  | tup a _ => intro cs h; exact h.elim
  | any => intro cs h; exact h.elim
  | undef => intro cs h; exact h.elim
  | dead => intro cs h; exact h
  | int k n => intro cs h; exact h
  | bool b => intro cs h; exact h
  | str b => intro cs h; exact h
  | nils => intro cs h; exact h
  | nilp => intro cs h; exact h
  | fn f => intro cs h; exact h
  | ifc b => intro cs h; exact h
  | unit => intro cs h; exact h
  | arr n s k => intro cs h; exact DR.keep (t := .arr n s) (fun _ _ _ => rfl) (Nat.le_refl _) (fun b _ h => ho b h) h
  | sl F s k => intro cs h; exact DR.keep (t := .sl F s) (fun _ _ _ => rfl) (Nat.le_refl _) (fun b _ h => ho b h) h
theorem V1.ren (ho : ∀ b, own' b → own b) {v : V} {x : Value} (h : V1 w own ρ m v x) : V1 w own' (fun k => ρ (sw d e k)) (renM d e m) (v.ren d e) x := by
  cases v
  case any => trivial
  case undef => exact h
  case agg c => obtain ⟨cs, e1, hf⟩ := h; exact ⟨cs, e1, FR.ren ho (v := .agg c) hf⟩
  case arr n t l => obtain ⟨cs, e1, hf⟩ := h; exact ⟨cs, e1, FR.ren (d := d) (e := e) ho (v := .arr n t l) hf⟩
  case tup c => exact (show False from h).elim
  all_goals exact FR.ren (d := d) (e := e) ho h
theorem TR.ren (ho : ∀ b, own' b → own b) : ∀ {v : V} {xs : List Value}, TR w own ρ m v xs → TR w own' (fun k => ρ (sw d e k)) (renM d e m) (v.ren d e) xs := by
  intro v
  induction v with
  | unit => intro xs h; exact h
  | pair a b _ ihb => rintro xs ⟨y, ys, e1, h1, h2⟩; exact ⟨y, ys, e1, h1.ren ho, ihb h2⟩
  | _ => intro xs h; exact h.elim
theorem isClo_ren {d e : Nat} : ∀ c : V, isClo (c.ren d e) = isClo c := by
  intro c
  cases c
  case pair a b =>
    cases a
    case undef =>
      cases b
      case pair p q =>
        cases p
        case fn f =>
          cases q
          case pair u v =>
            cases u
            all_goals first | rfl | (simp only [V.ren]; split <;> rfl)
          all_goals first | rfl | (simp only [V.ren]; split <;> rfl)
        all_goals first | rfl | (simp only [V.ren]; split <;> rfl)
      all_goals first | rfl | (simp only [V.ren]; split <;> rfl)
    all_goals first | rfl | (simp only [V.ren]; split <;> rfl)
  all_goals first | rfl | (simp only [V.ren]; split <;> rfl)
theorem VR.ren (ho : ∀ b, own' b → own b) {v : V} {x : Value} (h : VR w own ρ m v x) : VR w own' (fun k => ρ (sw d e k)) (renM d e m) (v.ren d e) x := by
  cases v
  case tup c => obtain ⟨xs, e1, ht⟩ := h; exact ⟨xs, by rw [e1]; unfold tupVal; rw [isClo_ren], ht.ren ho⟩
  case any => exact V1.ren (w := w) (ρ := ρ) (m := m) (d := d) (e := e) (v := .any) (x := x) ho h
  case undef => exact V1.ren (w := w) (ρ := ρ) (m := m) (d := d) (e := e) (v := .undef) (x := x) ho h
  case dead => exact V1.ren (w := w) (ρ := ρ) (m := m) (d := d) (e := e) (v := .dead) (x := x) ho h
  case nils => exact V1.ren (w := w) (ρ := ρ) (m := m) (d := d) (e := e) (v := .nils) (x := x) ho h
  case nilp => exact V1.ren (w := w) (ρ := ρ) (m := m) (d := d) (e := e) (v := .nilp) (x := x) ho h
  case unit => exact V1.ren (w := w) (ρ := ρ) (m := m) (d := d) (e := e) (v := .unit) (x := x) ho h
  case fn f => exact V1.ren (w := w) (ρ := ρ) (m := m) (d := d) (e := e) (v := .fn f) (x := x) ho h
  case ifc b => exact V1.ren (w := w) (ρ := ρ) (m := m) (d := d) (e := e) (v := .ifc b) (x := x) ho h
  case mp k => exact V1.ren (w := w) (ρ := ρ) (m := m) (d := d) (e := e) (v := .mp k) (x := x) ho h
  case rs k => exact V1.ren (w := w) (ρ := ρ) (m := m) (d := d) (e := e) (v := .rs k) (x := x) ho h
  case int k n => exact V1.ren (w := w) (ρ := ρ) (m := m) (d := d) (e := e) (v := .int k n) (x := x) ho h
  case bool b => exact V1.ren (w := w) (ρ := ρ) (m := m) (d := d) (e := e) (v := .bool b) (x := x) ho h
  case str b => exact V1.ren (w := w) (ρ := ρ) (m := m) (d := d) (e := e) (v := .str b) (x := x) ho h
  case pair a b => exact V1.ren (w := w) (ρ := ρ) (m := m) (d := d) (e := e) (v := .pair a b) (x := x) ho h
  case agg a => exact V1.ren (w := w) (ρ := ρ) (m := m) (d := d) (e := e) (v := .agg a) (x := x) ho h
  case arr n t l => exact V1.ren (w := w) (ρ := ρ) (m := m) (d := d) (e := e) (v := .arr n t l) (x := x) ho h
  case sl F t l => exact V1.ren (w := w) (ρ := ρ) (m := m) (d := d) (e := e) (v := .sl F t l) (x := x) ho h
  case ptr k p => exact V1.ren (w := w) (ρ := ρ) (m := m) (d := d) (e := e) (v := .ptr k p) (x := x) ho h
  case eptr k i p => exact V1.ren (w := w) (ρ := ρ) (m := m) (d := d) (e := e) (v := .eptr k i p) (x := x) ho h
  case sptr k a => exact V1.ren (w := w) (ρ := ρ) (m := m) (d := d) (e := e) (v := .sptr k a) (x := x) ho h
end
section
variable {cx : Cx} {s : St} {a : Act} {w : World} {ρ : Nat → Value}
theorem Sim.ren (h : Sim cx s a w ρ) {d e : Nat} (hd : cx.pin d = none) (he : cx.pin e = none) : Sim cx (s.ren d e) a w (fun k => ρ (sw d e k)) := by
  have sub : ∀ k o, getM (renM d e s.mem) k = some o → ∃ o', getM s.mem (sw d e k) = some o' ∧ o = o'.ren d e := by
    intro k o hk
    rw [getM_ren'] at hk
    cases ho : getM s.mem (sw d e k) with
    | none => rw [ho] at hk; cases hk
    | some o' => rw [ho] at hk; cases hk; exact ⟨o', rfl, rfl⟩
  have hown : ∀ b, Own cx (fun k => ρ (sw d e k)) (renM d e s.mem) b → Own cx ρ s.mem b := by
    rintro b (hx | ⟨k, o, hk, hb'⟩)
    · exact .inl hx
    · obtain ⟨o', h1, _⟩ := sub k o hk
      exact .inr ⟨sw d e k, o', h1, hb'⟩
  refine ⟨h.sz, h.df, h.be, h.fo, ?_, ?_, ?_, ?_, ?_, h.pl, ?_⟩
  · intro k o b hk hb'
    obtain ⟨o', h1, _⟩ := sub k o hk
    exact h.ge _ o' b h1 hb'
  · intro k o b hk hb'
    obtain ⟨o', h1, _⟩ := sub k o hk
    exact h.no _ o' b h1 hb'
  · intro k k' o o2 b hk hk' h1 h2
    obtain ⟨o', h3, _⟩ := sub k o hk
    obtain ⟨o2', h4, _⟩ := sub k' o2 hk'
    exact sw_inj (h.ds _ _ o' o2' b h3 h4 h1 h2)
  · intro k o hk
    obtain ⟨o', h1, e1⟩ := sub k o hk
    have hor := h.ob _ o' h1
    subst e1
    cases o' with
    | box v =>
      obtain ⟨b, cs, T, h2, h3, h4, h5⟩ := hor
      exact ⟨b, cs, T, h2, h3, h4.ren hown, fun U hU => h5 U (by rw [← hU]; exact (tag_ren d e v).symm)⟩
    | row E t l =>
      obtain ⟨hp, css, h2, h3⟩ := hor
      exact ⟨hp, css, h2, h3.mono fun _ _ hx => DR.keep (fun _ _ _ => rfl) (Nat.le_refl _) (fun b _ h => hown b h) hx⟩
    | map K E k' t l =>
      obtain ⟨r, es, ck, h2, h3, h4⟩ := hor
      exact ⟨r, es, ck, h2, h3, h4.keep (fun _ _ _ => rfl) (Nat.le_refl _) (fun b _ h => hown b h)⟩
  · intro t
    show VR _ _ _ _ ((s.fr.map (V.ren d e)).get t) _
    rw [Fr.get_map _ rfl]
    exact (h.fr t).ren hown
  · intro k x o hp hk
    obtain ⟨o', h1, _⟩ := sub k o hk
    have e1 : sw d e k = k := by
      unfold sw
      rw [if_neg (fun x => by rw [x, hd] at hp; cases hp), if_neg (fun x => by rw [x, he] at hp; cases hp)]
    rw [e1] at h1 ⊢
    exact h.pn k x o' hp h1
/-- What a key of the new state was called. -/
theorem Sim.rens : ∀ (l : List (Nat × Nat)) {s : St} {ρ : Nat → Value}, Sim cx s a w ρ → (∀ p ∈ l, cx.pin p.1 = none ∧ cx.pin p.2 = none) → Sim cx (s.rens l) a w (fun k => ρ (back l k))
  | [], _, _, h, _ => h
  | (d, e) :: l, s, ρ, h, hp => by
    have h0 := hp (d, e) (by simp)
    have h1 := h.ren (d := d) (e := e) h0.1 h0.2
    have := Sim.rens l h1 (fun p hm => hp p (by simp [hm]))
    exact this
theorem mis_lo {lo : Nat} : ∀ {h : Sh} {v : V} {p : Nat × Nat}, mis lo h v = some p → lo ≤ p.1 ∧ lo ≤ p.2 := by
  have one : ∀ {d k : Nat} {p : Nat × Nat}, mis1 lo d k = some p → lo ≤ p.1 ∧ lo ≤ p.2 := by
    intro d k p h
    unfold mis1 at h
    split at h
    · cases h
    · split at h
      · rename_i hh; cases h; exact hh
      · cases h
  intro h
  induction h with
  | rs d => intro v p h; cases v <;> simp only [mis] at h <;> first | (cases h; done) | exact one h
  | mp d => intro v p h; cases v <;> simp only [mis] at h <;> first | (cases h; done) | exact one h
  | ptr d q => intro v p h; cases v <;> simp only [mis] at h <;> first | (cases h; done) | exact one h
  | pair a b iha ihb =>
    intro v p h
    cases v <;> simp only [mis] at h <;> try (cases h; done)
    split at h
    · rename_i x hx; cases h; exact iha hx
    · exact ihb h
  | agg a ih => intro v p h; cases v <;> simp only [mis] at h <;> first | (cases h; done) | exact ih h
  | lit n a ih => intro v p h; cases v <;> simp only [mis] at h <;> first | (cases h; done) | exact ih h
  | val t => intro v p h; cases v <;> simp [mis] at h
  | nilp => intro v p h; cases v <;> simp [mis] at h
  | dead => intro v p h; cases v <;> simp [mis] at h
theorem swapsFor_lo {lo : Nat} {h : Sh} {get : St → V} : ∀ (n : Nat) (s : St), ∀ p ∈ swapsFor lo h get n s, lo ≤ p.1 ∧ lo ≤ p.2
  | 0, _, _, hp => by cases hp
  | n + 1, s, p, hp => by
    simp only [swapsFor] at hp
    split at hp
    · cases hp
    · rename_i d k hm
      rcases List.mem_cons.1 hp with e | hp
      · subst e; exact mis_lo hm
      · exact swapsFor_lo n _ p hp
theorem swaps_lo {lo : Nat} : ∀ (l : List (Nat × Sh)) (s : St), ∀ p ∈ swaps lo l s, lo ≤ p.1 ∧ lo ≤ p.2
  | [], _, _, hp => by cases hp
  | (t, h) :: l, s, p, hp => by
    simp only [swaps, List.mem_append] at hp
    rcases hp with hp | hp
    · exact swapsFor_lo _ _ p hp
    · exact swaps_lo l _ p hp
theorem swapsM_lo {lo : Nat} : ∀ (l : List (Nat × OSh)) (s : St), ∀ p ∈ swapsM lo l s, lo ≤ p.1 ∧ lo ≤ p.2
  | [], _, _, hp => by cases hp
  | (d, .box h) :: l, s, p, hp => by
    simp only [swapsM, List.mem_append] at hp
    rcases hp with hp | hp
    · exact swapsFor_lo _ _ p hp
    · exact swapsM_lo l _ p hp
  | (d, .row _ _) :: l, s, p, hp => swapsM_lo l s p hp
  | (d, .map _ _ _ _) :: l, s, p, hp => swapsM_lo l s p hp
theorem allSwaps_lo {lo : Nat} {h : Shape} {s : St} : ∀ p ∈ allSwaps lo h s, lo ≤ p.1 ∧ lo ≤ p.2 := by
  intro p hp
  unfold allSwaps at hp
  simp only [List.mem_append] at hp
  rcases hp with hp | hp | hp
  · exact swaps_lo _ _ p hp
  · exact swapsM_lo _ _ p hp
  · exact swapsM_lo _ _ p hp
end
end Go.Rf
