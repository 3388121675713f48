/- Symbolic values: reading and writing by paths, what they read as, what is kept. -/
import Derived.Test.YthdddaikdiaijaaDoorRfC
namespace Go.Rf
section
variable {w : World} {own : Nat → Prop} {ρ : Nat → Value} {m : Mem}
theorem FR.one' {v : V} {cs : List Value} (h : v.one = true) (hf : FR w own ρ m v cs) (hd : ∀ E t l d, getM m d = some (.row E t l) → (ρ d).oneCell' = true) : ∃ x, cs = [x] ∧ x.oneCell' = true := by
  cases v <;> simp [V.one] at h <;> simp only [FR, DR] at hf
  case dead => obtain ⟨x, e, h⟩ := hf; exact ⟨x, e, h⟩
  case int k n => exact ⟨_, hf, rfl⟩
  case bool b => exact ⟨_, hf, rfl⟩
  case str s => exact ⟨_, hf, rfl⟩
  case nils => exact ⟨_, hf, rfl⟩
  case nilp => exact ⟨_, hf, rfl⟩
  case fn f => exact ⟨_, hf, rfl⟩
  case ifc b => obtain ⟨x, e, h⟩ := hf; exact ⟨x, e, h.one⟩
  case mp d => obtain ⟨r, _, e, _⟩ := hf; exact ⟨_, e, rfl⟩
  case sl E t l => obtain ⟨a, c, e, _⟩ := hf; exact ⟨_, e, rfl⟩
  case rs d => obtain ⟨e, E, t, l, hm⟩ := hf; exact ⟨_, e, hd _ _ _ _ hm⟩
  case ptr d p => obtain ⟨_, _, _, _, _, _, e⟩ := hf; exact ⟨_, e, rfl⟩
  case eptr d i p => obtain ⟨_, _, _, _, _, _, _, _, _, _, _, e⟩ := hf; exact ⟨_, e, rfl⟩
  case sptr k u => obtain ⟨_, _, _, e, _⟩ := hf; exact ⟨_, e, spV_one _ _ _⟩
theorem FR.len : ∀ {v : V} {cs : List Value}, FR w own ρ m v cs → cs.length = v.size := by
  intro v
  induction v with
  | pair a b iha ihb => rintro cs ⟨c1, c2, e, h1, h2⟩; rw [e, List.length_append, iha h1, ihb h2]; rfl
  | agg a ih => intro cs h; exact ih h
  | unit => intro cs h; simp only [FR] at h; subst h; rfl
  | arr n t l => intro cs h; exact DR.len (t := .arr n t) h
  | sl E t l => rintro cs ⟨a, c, e, _⟩; rw [e]; rfl
  | any => intro cs h; exact h.elim
  | undef => intro cs h; exact h.elim
  | tup a _ => intro cs h; exact h.elim
  | dead => rintro cs ⟨x, e, _⟩; rw [e]; rfl
  | int k n => intro cs h; simp only [FR] at h; subst h; rfl
  | bool b => intro cs h; simp only [FR] at h; subst h; rfl
  | str s => intro cs h; simp only [FR] at h; subst h; rfl
  | nils => intro cs h; simp only [FR] at h; subst h; rfl
  | nilp => intro cs h; simp only [FR] at h; subst h; rfl
  | fn f => intro cs h; simp only [FR] at h; subst h; rfl
  | ifc b => rintro cs ⟨x, e, _⟩; rw [e]; rfl
  | mp d => rintro cs ⟨r, _, e, _⟩; rw [e]; rfl
  | rs d => intro cs h; rw [h.1]; rfl
  | ptr d p => rintro cs ⟨_, _, _, _, _, _, e⟩; rw [e]; rfl
  | eptr d i p => rintro cs ⟨_, _, _, _, _, _, _, _, _, _, _, e⟩; rw [e]; rfl
  | sptr k u _ => rintro cs ⟨_, _, _, e, _⟩; rw [e]; rfl
theorem FR.ones (hd : ∀ E t l d, getM m d = some (.row E t l) → (ρ d).oneCell' = true) : ∀ {v : V} {cs : List Value}, FR w own ρ m v cs → ∀ u ∈ cs, u.oneCell' = true := by
  intro v
  induction v with
  | pair a b iha ihb =>
    rintro cs ⟨c1, c2, e, h1, h2⟩ u hu
    rw [e] at hu
    rcases List.mem_append.1 hu with hu | hu
    · exact iha h1 u hu
    · exact ihb h2 u hu
  | agg a ih => intro cs h; exact ih h
  | unit => intro cs h u hu; simp only [FR] at h; subst h; cases hu
  | arr n t l => intro cs h; exact DR.one (t := .arr n t) h
  | any => intro cs h; exact h.elim
  | undef => intro cs h; exact h.elim
  | tup a _ => intro cs h; exact h.elim
  | _ =>
    intro cs h u hu
    obtain ⟨x, e, hx⟩ := FR.one' (by rfl) h hd
    rw [e] at hu
    simp at hu
    subst hu
    exact hx
theorem FR.enc : ∀ {t : Ty} {x : t.den} {cs : List Value}, DR w own t x cs → FR w own ρ m (enc t x) cs
  | .int _, _, _, h => h
  | .bool, _, _, h => h
  | .str, _, _, h => h
  | .unit, _, _, h => h
  | .nilp, _, _, h => h
  | .fn _, _, _, h => h
  | .ifc, _, _, h => h
  | .pair _ _, _, _, ⟨c1, c2, e, h1, h2⟩ => ⟨c1, c2, e, FR.enc h1, FR.enc h2⟩
  | .agg t, _, _, h => FR.enc (t := t) (by simpa only [DR] using h)
  | .arr _ _, _, _, h => h
  | .sl _ _, _, _, h => h
/-- A value is kept. -/
theorem FR.keep {w' : World} {own' : Nat → Prop} {ρ' : Nat → Value} {m' : Mem} (hw : ∀ b, b < w.heap.size → ¬ own b → w'.heap[b]? = w.heap[b]?) (hs : w.heap.size ≤ w'.heap.size)
    (ho : ∀ b, b < w.heap.size → own' b → own b) : ∀ {v : V} {cs : List Value}, (∀ d, v.has d = true → Keeps m m' ρ ρ' d) → FR w own ρ m v cs → FR w' own' ρ' m' v cs := by
  intro v
  induction v with
  | pair a b iha ihb =>
    rintro cs hk ⟨c1, c2, e, h1, h2⟩
    exact ⟨c1, c2, e, iha (fun d hd => hk d (by simp [V.has, hd])) h1, ihb (fun d hd => hk d (by simp [V.has, hd])) h2⟩
  | agg a ih => intro cs hk h; exact ih (fun d hd => hk d hd) h
  | unit => intro cs _ h; exact h
  | arr n t l => intro cs _ h; exact DR.keep hw hs ho (t := .arr n t) h
  | sl E t l => intro cs _ h; exact DR.keep hw hs ho (t := .sl E t) h
  | any => intro cs _ h; exact h.elim
  | undef => intro cs _ h; exact h.elim
  | tup a _ => intro cs _ h; exact h.elim
  | dead => intro cs _ h; exact h
  | int k n => intro cs _ h; exact h
  | bool b => intro cs _ h; exact h
  | str s => intro cs _ h; exact h
  | nils => intro cs _ h; exact h
  | nilp => intro cs _ h; exact h
  | fn f => intro cs _ h; exact h
  | ifc b => intro cs _ h; exact h
  | mp d =>
    rintro cs hk ⟨r, hr, e, K, E, k', t, l, hm⟩
    have k := hk d (by simp [V.has])
    obtain ⟨l', h'⟩ := k.map _ _ _ _ _ hm
    exact ⟨r, by rw [k.h]; exact hr, e, K, E, k', t, l', h'⟩
  | rs d =>
    rintro cs hk ⟨e, E, t, l, hm⟩
    have k := hk d (by simp [V.has])
    obtain ⟨l', h', _⟩ := k.row _ _ _ hm
    exact ⟨by rw [k.h]; exact e, E, t, l', h'⟩
  | ptr d p =>
    rintro cs hk ⟨b, off, v, hr, hm, hp, e⟩
    have k := hk d (by simp [V.has])
    obtain ⟨v', h', hp'⟩ := k.box _ hm
    exact ⟨b, off, v', by rw [k.h]; exact hr, h', hp' _ _ hp, e⟩
  | eptr d i p =>
    rintro cs hk ⟨E, t, l, b, cap, off, hm, hr, h0, h1, hp, e⟩
    have k := hk d (by simp [V.has])
    obtain ⟨l', h', hl⟩ := k.row _ _ _ hm
    exact ⟨E, t, l', b, cap, off, h', by rw [k.h, hl]; exact hr, h0, by rw [hl]; exact h1, path_enc p t _ _ off hp, e⟩
  | sptr k u ih =>
    rintro cs hk ⟨b, off, us, e, hb, hlt, hu, hc⟩
    exact ⟨b, off, us, e, fun hx => hb (ho b hlt hx), Nat.lt_of_lt_of_le hlt hs, ih (fun d hd => hk d hd) hu, hc.keep (hw b hlt hb)⟩
theorem V1.keep {w' : World} {own' : Nat → Prop} {ρ' : Nat → Value} {m' : Mem} (hw : ∀ b, b < w.heap.size → ¬ own b → w'.heap[b]? = w.heap[b]?) (hs : w.heap.size ≤ w'.heap.size)
    (ho : ∀ b, b < w.heap.size → own' b → own b) {v : V} {x : Value} (hk : ∀ d, v.has d = true → Keeps m m' ρ ρ' d) (h : V1 w own ρ m v x) : V1 w' own' ρ' m' v x := by
  cases v
  case any => trivial
  case undef => exact h
  case agg c => obtain ⟨cs, e, hf⟩ := h; exact ⟨cs, e, FR.keep hw hs ho hk hf⟩
  case arr n t l => obtain ⟨cs, e, hf⟩ := h; exact ⟨cs, e, FR.keep hw hs ho hk hf⟩
  all_goals exact FR.keep hw hs ho hk h
theorem TR.keep {w' : World} {own' : Nat → Prop} {ρ' : Nat → Value} {m' : Mem} (hw : ∀ b, b < w.heap.size → ¬ own b → w'.heap[b]? = w.heap[b]?) (hs : w.heap.size ≤ w'.heap.size)
    (ho : ∀ b, b < w.heap.size → own' b → own b) : ∀ {v : V} {xs : List Value}, (∀ d, v.has d = true → Keeps m m' ρ ρ' d) → TR w own ρ m v xs → TR w' own' ρ' m' v xs := by
  intro v
  induction v with
  | unit => intro xs _ h; exact h
  | pair a b _ ihb =>
    rintro xs hk ⟨y, ys, e, h1, h2⟩
    exact ⟨y, ys, e, h1.keep hw hs ho (fun d hd => hk d (by simp [V.has, hd])), ihb (fun d hd => hk d (by simp [V.has, hd])) h2⟩
  | _ => intro xs _ h; exact h.elim
theorem VR.keep {w' : World} {own' : Nat → Prop} {ρ' : Nat → Value} {m' : Mem} (hw : ∀ b, b < w.heap.size → ¬ own b → w'.heap[b]? = w.heap[b]?) (hs : w.heap.size ≤ w'.heap.size)
    (ho : ∀ b, b < w.heap.size → own' b → own b) {v : V} {x : Value} (hk : ∀ d, v.has d = true → Keeps m m' ρ ρ' d) (h : VR w own ρ m v x) : VR w' own' ρ' m' v x := by
  cases v
  case tup c => obtain ⟨xs, e, ht⟩ := h; exact ⟨xs, e, TR.keep hw hs ho hk ht⟩
  all_goals exact V1.keep (x := x) hw hs ho hk h
/-! ### paths -/
theorem FR.nth : ∀ {c : V} {cs : List Value} {j : Nat} {u : V}, FR w own ρ m c cs → nth c j = some u →
    ∃ pre us post, cs = pre ++ us ++ post ∧ pre.length = offN c j ∧ FR w own ρ m u us ∧
      ∀ u' us', FR w own ρ m u' us' → ∀ c', setNth c j u' = some c' → FR w own ρ m c' (pre ++ us' ++ post) := by
  intro c
  induction c with
  | pair a b _ ihb =>
    rintro cs j u ⟨c1, c2, e, h1, h2⟩ hn
    cases j with
    | zero =>
      simp only [Rf.nth] at hn
      cases hn
      refine ⟨[], c1, c2, by simpa using e, rfl, h1, fun u' us' hu c' hc => ?_⟩
      simp only [setNth] at hc
      cases hc
      exact ⟨us', c2, by simp, hu, h2⟩
    | succ j =>
      simp only [Rf.nth] at hn
      obtain ⟨pre, us, post, e2, hl, hu, hset⟩ := ihb h2 hn
      refine ⟨c1 ++ pre, us, post, by rw [e, e2]; simp, by rw [List.length_append, hl, h1.len]; rfl, hu, fun u' us' hu' c' hc => ?_⟩
      simp only [setNth] at hc
      cases hs : setNth b j u' with
      | none => rw [hs] at hc; cases hc
      | some b' =>
        rw [hs] at hc
        cases hc
        exact ⟨c1, pre ++ us' ++ post, by simp, h1, hset u' us' hu' b' hs⟩
  | unit => intro cs j u _ hn; simp [Rf.nth] at hn
  | _ =>
    intro cs j u h hn
    cases j with
    | succ j => simp [Rf.nth] at hn
    | zero =>
      simp only [Rf.nth] at hn
      cases hn
      refine ⟨[], cs, [], by simp, rfl, h, fun u' us' hu c' hc => ?_⟩
      simp only [setNth] at hc
      cases hc
      simpa using hu
theorem getD_lt {α : Type} (l : List α) (i : Nat) (d : α) (h : i < l.length) : l.getD i d = l[i] := by simp [List.getD, List.getElem?_eq_getElem h]
theorem FR.path : ∀ (p : List PS) {v : V} {cs : List Value} {off : Nat} {u : V}, FR w own ρ m v cs → PathAt p v off → getP v p = some u →
    ∃ pre us post, cs = pre ++ us ++ post ∧ pre.length = off ∧ FR w own ρ m u us
  | [], v, cs, off, u, h, hp, hg => by
    simp only [PathAt] at hp
    simp only [getP] at hg
    cases hg
    exact ⟨[], cs, [], by simp, by simp [hp], h⟩
  | .fld j :: p, v, cs, off, u, h, ⟨c, u1, o, e, hn, ho, hp⟩, hg => by
    subst e
    simp only [getP, hn, Option.bind_some] at hg
    obtain ⟨pre, us, post, e1, hl, hu, _⟩ := FR.nth (c := c) h hn
    obtain ⟨pre2, us2, post2, e2, hl2, hu2⟩ := FR.path p hu hp hg
    exact ⟨pre ++ pre2, us2, post2 ++ post, by rw [e1, e2]; simp, by rw [List.length_append, hl, hl2, ho], hu2⟩
  | .idx i :: p, v, cs, off, u, h, ⟨n, t, l, o, e, h0, h1, ho, hp⟩, hg => by
    subst e
    simp only [getP] at hg
    obtain ⟨hl, hr⟩ := h
    have hi : i.toNat < l.length := by omega
    obtain ⟨pre, a, post, e1, hp1, ha, _⟩ := hr.at (fun _ _ => DR.len (t := t)) i.toNat hi (dflt t)
    obtain ⟨pre2, us2, post2, e2, hl2, hu2⟩ := FR.path p (FR.enc ha) hp hg
    exact ⟨pre ++ pre2, us2, post2 ++ post, by rw [e1, e2]; simp, by rw [List.length_append, hp1, hl2, ho], hu2⟩
/-! ### what a value reads as -/
theorem dec_sound (hrow : ∀ d E t l, getM m d = some (.row E t l) → ∃ css, Row (DR w own t) l css ∧ css.length = l.length * t.size ∧
      ((ρ d = .slice none 0 0 ∧ l = []) ∨ ∃ b cap, ρ d = .slice (some ⟨b, 0, none⟩) l.length cap ∧ l.length ≤ cap ∧ b < w.heap.size ∧ Cells w b 0 css))
    {own' : Nat → Prop} (ho : ∀ b, own' b → own b) {m0 : Mem} (hm : ∀ d o, getM m0 d = some o → getM m d = some o) : ∀ {t : Ty} {v : V} {x : t.den} {cs : List Value},
      dec m0 t v = some x → FR w own ρ m v cs → (∀ d, d ∈ rowKeys v → ∀ b, hb (ρ d) = some b → ¬ own' b) → DR w own' t x cs
  | .int k, v, x, cs, hd, hf, _ => by
    cases v <;> simp [dec] at hd
    obtain ⟨rfl, rfl⟩ := hd
    exact hf
  | .bool, v, x, cs, hd, hf, _ => by
    cases v <;> simp [dec] at hd
    subst hd
    exact hf
  | .str, v, x, cs, hd, hf, _ => by
    cases v <;> simp [dec] at hd
    subst hd
    exact hf
  | .unit, v, x, cs, hd, hf, _ => by
    cases v <;> simp [dec] at hd
    exact hf
  | .nilp, v, x, cs, hd, hf, _ => by
    cases v <;> simp [dec] at hd
    exact hf
  | .ifc, v, x, cs, hd, hf, _ => by
    cases v <;> simp [dec] at hd
    subst hd
    exact hf
  | .fn f, v, x, cs, hd, hf, _ => by
    cases v <;> simp [dec] at hd
    subst hd
    exact hf
  | .pair a b, v, x, cs, hd, hf, hk => by
    cases v <;> simp only [dec] at hd <;> try (cases hd; done)
    rename_i u v
    obtain ⟨c1, c2, e, h1, h2⟩ := hf
    cases ha : dec m0 a u with
    | none => rw [ha] at hd; cases hd
    | some y =>
      rw [ha] at hd
      simp only [Option.bind_some] at hd
      cases hb : dec m0 b v with
      | none => rw [hb] at hd; cases hd
      | some z =>
        rw [hb] at hd
        cases hd
        exact ⟨c1, c2, e, dec_sound hrow ho hm ha h1 (fun d hd => hk d (by simp [rowKeys, hd])), dec_sound hrow ho hm hb h2 (fun d hd => hk d (by simp [rowKeys, hd]))⟩
  | .agg t, v, x, cs, hd, hf, hk => by
    cases v <;> simp only [dec] at hd <;> try (cases hd; done)
    rename_i v
    exact dec_sound hrow ho hm (t := t) hd hf hk
  | .arr n t, v, x, cs, hd, hf, _ => by
    cases v <;> simp only [dec] at hd <;> try (cases hd; done)
    split at hd
    · rename_i e
      obtain ⟨rfl, rfl⟩ := e
      cases hd
      exact DR.keep (t := .arr n _) (fun _ _ _ => rfl) (Nat.le_refl _) (fun b _ h => ho b h) hf
    · cases hd
  | .sl E t, v, x, cs, hd, hf, hk => by
    cases v <;> simp only [dec] at hd <;> try (cases hd; done)
    case nils =>
      cases hd
      simp only [FR] at hf
      exact ⟨none, 0, hf, Nat.le_refl _, fun h => (h rfl).elim⟩
    case sl E' t' l =>
      split at hd
      · rename_i e
        obtain ⟨rfl, rfl⟩ := e
        cases hd
        exact DR.keep (t := .sl E t') (fun _ _ _ => rfl) (Nat.le_refl _) (fun b _ h => ho b h) hf
      · cases hd
    case rs d =>
      cases hg : getM m0 d with
      | none => rw [hg] at hd; cases hd
      | some o =>
        rw [hg] at hd
        cases o with
        | box _ => cases hd
        | map _ _ _ _ _ => cases hd
        | row E' t' l =>
          simp only at hd
          split at hd
          · rename_i e
            obtain ⟨rfl, rfl⟩ := e
            cases hd
            obtain ⟨css, hr, hlen, hρ⟩ := hrow d E t' l (hm _ _ hg)
            obtain ⟨hcs, _⟩ := hf
            rcases hρ with ⟨hn, hl⟩ | ⟨b, cap, hn, hle, hlt, hc⟩
            · subst hl
              exact ⟨none, 0, by rw [hcs, hn]; rfl, Nat.le_refl _, fun h => (h rfl).elim⟩
            · refine ⟨some ⟨b, 0, none⟩, cap, by rw [hcs, hn], hle, fun _ => ⟨b, 0, css, rfl, hk d (by simp [rowKeys]) b (by rw [hn]; rfl), hlt, ?_, hc⟩⟩
              exact hr.mono fun _ _ hx => DR.keep (t := t') (fun _ _ _ => rfl) (Nat.le_refl _) (fun b _ h => ho b h) hx
          · cases hd
/-- Without rows of the call's own. -/
theorem dec_plain {t : Ty} {v : V} {x : t.den} {cs : List Value} (hd : dec [] t v = some x) (hf : FR w own ρ m v cs) : DR w own t x cs := by
  have key : ∀ {t : Ty} {v : V} {x : t.den} {cs : List Value}, dec [] t v = some x → FR w own ρ m v cs → DR w own t x cs := by
    intro t
    induction t with
    | pair a b iha ihb =>
      intro v x cs hd hf
      cases v <;> simp only [dec] at hd <;> try (cases hd; done)
      rename_i u v
      obtain ⟨c1, c2, e, h1, h2⟩ := hf
      cases ha : dec [] a u with
      | none => rw [ha] at hd; cases hd
      | some y =>
        rw [ha] at hd
        simp only [Option.bind_some] at hd
        cases hb : dec [] b v with
        | none => rw [hb] at hd; cases hd
        | some z =>
          rw [hb] at hd
          cases hd
          exact ⟨c1, c2, e, iha ha h1, ihb hb h2⟩
    | agg t ih =>
      intro v x cs hd hf
      cases v <;> simp only [dec] at hd <;> try (cases hd; done)
      exact ih hd hf
    | int k => intro v x cs hd hf; cases v <;> simp [dec] at hd; obtain ⟨rfl, rfl⟩ := hd; exact hf
    | bool => intro v x cs hd hf; cases v <;> simp [dec] at hd; subst hd; exact hf
    | str => intro v x cs hd hf; cases v <;> simp [dec] at hd; subst hd; exact hf
    | unit => intro v x cs hd hf; cases v <;> simp [dec] at hd; exact hf
    | nilp => intro v x cs hd hf; cases v <;> simp [dec] at hd; exact hf
    | fn f => intro v x cs hd hf; cases v <;> simp [dec] at hd; subst hd; exact hf
    | ifc => intro v x cs hd hf; cases v <;> simp [dec] at hd; subst hd; exact hf
    | arr n t _ =>
      intro v x cs hd hf
      cases v <;> simp only [dec] at hd <;> try (cases hd; done)
      split at hd
      · rename_i e; obtain ⟨rfl, rfl⟩ := e; cases hd; exact hf
      · cases hd
    | sl E t _ =>
      intro v x cs hd hf
      cases v <;> simp only [dec, getM] at hd <;> try (cases hd; done)
      case nils => cases hd; simp only [FR] at hf; exact ⟨none, 0, hf, Nat.le_refl _, fun h => (h rfl).elim⟩
      case sl E' t' l =>
        split at hd
        · rename_i e; obtain ⟨rfl, rfl⟩ := e; cases hd; exact hf
        · cases hd
  exact key hd hf
theorem FR.refl : ∀ {v : V} {cs : List Value}, FR w own ρ m v cs → same v v = true := by
  intro v
  induction v with
  | pair a b iha ihb => rintro cs ⟨_, _, _, h1, h2⟩; simp [same, iha h1, ihb h2]
  | agg a ih => intro cs h; exact ih h
  | any => intro cs h; exact h.elim
  | undef => intro cs h; exact h.elim
  | tup a _ => intro cs h; exact h.elim
  | unit => intro cs _; rfl
  | arr n t l => intro cs _; simp [same]
  | _ => intro cs _; simp [same, V.one]
theorem FR.same_set : ∀ {c : V} {cs : List Value} {j : Nat} {u u' c' : V}, FR w own ρ m c cs → Rf.nth c j = some u → setNth c j u' = some c' → same u u' = true → same c c' = true := by
  intro c
  induction c with
  | pair a b _ ihb =>
    rintro cs j u u' c' ⟨_, _, _, h1, h2⟩ hn hc hs
    cases j with
    | zero =>
      simp only [Rf.nth] at hn
      cases hn
      simp only [setNth] at hc
      cases hc
      simp [same, hs, h2.refl]
    | succ j =>
      simp only [Rf.nth] at hn
      simp only [setNth] at hc
      cases hb : setNth b j u' with
      | none => rw [hb] at hc; cases hc
      | some b' =>
        rw [hb] at hc
        cases hc
        simp [same, h1.refl, ihb h2 hn hb hs]
  | unit => intro cs j u u' c' _ hn; simp [Rf.nth] at hn
  | _ =>
    intro cs j u u' c' h hn hc hs
    cases j with
    | succ j => simp [Rf.nth] at hn
    | zero =>
      simp only [Rf.nth] at hn
      cases hn
      simp only [setNth] at hc
      cases hc
      exact hs
theorem FR.setP : ∀ (p : List PS) {v x v' : V} {cs xs : List Value} {off : Nat}, FR w own ρ m v cs → FR w own ρ m x xs → PathAt p v off → Rf.setP [] v p x = some v' →
    (∃ pre us post, cs = pre ++ us ++ post ∧ pre.length = off ∧ us.length = xs.length ∧ FR w own ρ m v' (pre ++ xs ++ post)) ∧ same v v' = true
  | [], v, x, v', cs, xs, off, h, hx, hp, hg => by
    simp only [PathAt] at hp
    simp only [Rf.setP] at hg
    split at hg
    · rename_i hs
      cases hg
      exact ⟨⟨[], cs, [], by simp, by simp [hp], by rw [h.len, hx.len, same_size hs], by simpa using hx⟩, hs⟩
    · cases hg
  | .fld j :: p, v, x, v', cs, xs, off, h, hx, ⟨c, u1, o, e, hn, ho, hp⟩, hg => by
    subst e
    simp only [Rf.setP, hn, Option.bind_some] at hg
    cases hs : Rf.setP [] u1 p x with
    | none => rw [hs] at hg; cases hg
    | some u' =>
      rw [hs] at hg
      simp only [Option.bind_some] at hg
      cases hc : setNth c j u' with
      | none => rw [hc] at hg; cases hg
      | some c' =>
        rw [hc] at hg
        cases hg
        obtain ⟨pre, us, post, e1, hl, hu, hset⟩ := FR.nth (c := c) h hn
        obtain ⟨⟨pre2, us2, post2, e2, hl2, hl3, hu2⟩, hsame⟩ := FR.setP p hu hx hp hs
        refine ⟨⟨pre ++ pre2, us2, post2 ++ post, by rw [e1, e2]; simp, by rw [List.length_append, hl, hl2, ho], hl3, ?_⟩, ?_⟩
        · have := hset u' _ hu2 c' hc
          simpa [FR] using this
        · exact FR.same_set (c := c) h hn hc hsame
  | .idx i :: p, v, x, v', cs, xs, off, h, hx, ⟨n, t, l, o, e, h0, h1, ho, hp⟩, hg => by
    subst e
    simp only [Rf.setP] at hg
    cases hs : Rf.setP [] (Rf.enc t (l.getD i.toNat (dflt t))) p x with
    | none => rw [hs] at hg; cases hg
    | some u' =>
      rw [hs] at hg
      simp only [Option.bind_some] at hg
      cases hd : dec [] t u' with
      | none => rw [hd] at hg; cases hg
      | some y =>
        rw [hd] at hg
        cases hg
        obtain ⟨hl, hr⟩ := h
        have hi : i.toNat < l.length := by omega
        obtain ⟨pre, a, post, e1, hp1, ha, hset⟩ := hr.at (fun _ _ => DR.len (t := t)) i.toNat hi (dflt t)
        obtain ⟨⟨pre2, us2, post2, e2, hl2, hl3, hu2⟩, _⟩ := FR.setP p (FR.enc ha) hx hp hs
        refine ⟨⟨pre ++ pre2, us2, post2 ++ post, by rw [e1, e2]; simp, by rw [List.length_append, hp1, hl2, ho], hl3, ?_⟩, by simp [same]⟩
        have := hset y _ (dec_plain hd hu2)
        exact ⟨by simpa using hl, by simpa using this⟩
end
end Go.Rf
