/- The states at cuts; whole functions. -/
import Derived.Test.YthdddaikdiaijaaDoorRfMp
import Derived.Test.YthdddaikdiaijaaDoorRfRn
namespace Go.Rf
open Go.RowKit (Below)
/-! ### shapes that may be -/
def rowIn : List (Nat × OSh) → Nat → Bool
  | [], _ => false
  | (d, .row _ _) :: r, e => if d = e then true else rowIn r e
  | (d, .box _) :: r, e => if d = e then false else rowIn r e
  | (d, .map _ _ _ _) :: r, e => if d = e then false else rowIn r e
def boxIn : List (Nat × OSh) → Nat → Bool
  | [], _ => false
  | (d, .box _) :: r, e => if d = e then true else boxIn r e
  | (d, .row _ _) :: r, e => if d = e then false else boxIn r e
  | (d, .map _ _ _ _) :: r, e => if d = e then false else boxIn r e
def mapIn : List (Nat × OSh) → Nat → Bool
  | [], _ => false
  | (d, .box _) :: r, e => if d = e then false else mapIn r e
  | (d, .row _ _) :: r, e => if d = e then false else mapIn r e
  | (d, .map _ _ _ _) :: r, e => if d = e then true else mapIn r e
def Sh.ok (m : List (Nat × OSh)) : Sh → Bool
  | .val _ | .nilp | .dead => true
  | .rs d => rowIn m d
  | .ptr d _ => boxIn m d
  | .mp d => mapIn m d
  | .pair a b => a.ok m && b.ok m
  | .agg a => a.ok m
  | .lit _ a => a.ok m
def OSh.ok (m : List (Nat × OSh)) : OSh → Bool
  | .box h => h.ok m
  | .row _ t => decide (0 < t.size)
  | .map _ _ _ _ => true
/-- Rows' names are not those of what is handed in. -/
def rowNm : Nat × OSh → Bool
  | (d, .row _ _) => decide (1000 ≤ d)
  | _ => true
def Shape.ok (h : Shape) : Bool := (h.slots.all fun x => x.2.ok h.mem) && (h.mem.all fun x => x.2.ok h.mem && rowNm x)
section
variable {P : Program} {C : Tab} {cx : Cx} {s s' s1 : St} {a : Act} {w w' : World} {ρ ρ' : Nat → Value}
theorem dec_same {m : Mem} : ∀ {t : Ty} {v : V} {x : t.den}, dec m t v = some x → same v (enc t x) = true
  | .int k, v, x, h => by cases v <;> simp [dec] at h; simp [enc, same, V.one]
  | .bool, v, x, h => by cases v <;> simp [dec] at h; simp [enc, same, V.one]
  | .str, v, x, h => by cases v <;> simp [dec] at h; simp [enc, same, V.one]
  | .unit, v, x, h => by cases v <;> simp [dec] at h; simp [enc, same]
  | .nilp, v, x, h => by cases v <;> simp [dec] at h; simp [enc, same, V.one]
  | .fn _, v, x, h => by cases v <;> simp [dec] at h; simp [enc, same, V.one]
  | .ifc, v, x, h => by cases v <;> simp [dec] at h; simp [enc, same, V.one]
  | .pair p q, v, x, h => by
    cases v <;> simp only [dec] at h <;> try (cases h; done)
    rename_i u v
    cases hp : dec m p u with
    | none => rw [hp] at h; cases h
    | some y =>
      rw [hp] at h
      simp only [Option.bind_some] at h
      cases hq : dec m q v with
      | none => rw [hq] at h; cases h
      | some z => rw [hq] at h; cases h; simp [enc, same, dec_same hp, dec_same hq]
  | .agg t, v, x, h => by
    cases v <;> simp only [dec] at h <;> try (cases h; done)
    simp only [enc, same]
    exact dec_same (t := t) h
  | .arr n t, v, x, h => by
    cases v <;> simp only [dec] at h <;> try (cases h; done)
    split at h
    · rename_i e; obtain ⟨rfl, rfl⟩ := e; simp [enc, same]
    · cases h
  | .sl E t, v, x, h => by
    cases v <;> simp only [dec] at h <;> first | (cases h; done) | simp [enc, same, V.one]
theorem Sh.dec_same {m : Mem} : ∀ {h : Sh} {v : V} {x : h.den}, h.dec m v = some x → same v (h.enc x) = true
  | .val t, v, x, h => Rf.dec_same (m := []) (t := t) (by simpa [Sh.dec] using h)
  | .rs d, v, x, h => by cases v <;> simp only [Sh.dec] at h <;> first | (cases h; done) | simp [Sh.enc, same, V.one]
  | .ptr d p, v, x, h => by cases v <;> simp only [Sh.dec] at h <;> first | (cases h; done) | simp [Sh.enc, same, V.one]
  | .nilp, v, x, h => by cases v <;> simp only [Sh.dec] at h <;> first | (cases h; done) | simp [Sh.enc, same, V.one]
  | .dead, v, x, h => by cases v <;> simp only [Sh.dec] at h <;> first | (cases h; done) | simp [Sh.enc, same, V.one]
  | .mp d, v, x, h => by cases v <;> simp only [Sh.dec] at h <;> first | (cases h; done) | simp [Sh.enc, same, V.one]
  | .agg p, v, x, h => by
    cases v <;> simp only [Sh.dec] at h <;> try (cases h; done)
    simp only [Sh.enc, same]
    exact Sh.dec_same (h := p) h
  | .lit n p, v, x, h => by cases v <;> simp only [Sh.dec] at h <;> first | (cases h; done) | simp [Sh.enc, same, V.one]
  | .pair p q, v, x, h => by
    cases v <;> simp only [Sh.dec] at h <;> try (cases h; done)
    rename_i u v
    cases hp : p.dec m u with
    | none => rw [hp] at h; cases h
    | some y =>
      rw [hp] at h
      simp only [Option.bind_some] at h
      cases hq : q.dec m v with
      | none => rw [hq] at h; cases h
      | some z => rw [hq] at h; cases h; simp [Sh.enc, same, Sh.dec_same hp, Sh.dec_same hq]
theorem flds_out : ∀ {q : List PS} {p : List Nat}, flds q p = true → q = p.map .fld
  | [], [], _ => rfl
  | [], _ :: _, h => by simp [flds] at h
  | .fld i :: q, [], h => by simp [flds] at h
  | .idx i :: q, p, h => by cases p <;> simp [flds] at h
  | .fld i :: q, j :: p, h => by
    simp only [flds, Bool.and_eq_true, beq_iff_eq] at h
    rw [h.1, flds_out h.2]
    rfl
/-- The handles at a cut: a row that was not there yet is nil. -/
def cutH (m : Mem) (ρ : Nat → Value) (d : Nat) : Value := match getM m d with | some _ => ρ d | none => .slice none 0 0
/-- What the memory at a cut holds. -/
theorem encMem_out : ∀ {l : List (Nat × OSh)} {y : memDen l} {d : Nat}, decMem s.mem l = some y →
    (rowIn l d = true → ∃ E t k, (d, .row E t) ∈ l ∧ getM (encMem l y) d = some (.row E t k) ∧ (getM s.mem d = some (.row E t k) ∨ (getM s.mem d = none ∧ k = []))) ∧
    (boxIn l d = true → ∃ h v x, (d, OSh.box h) ∈ l ∧ getM (encMem l y) d = some (.box (h.enc x)) ∧ getM s.mem d = some (.box v) ∧ h.dec s.mem v = some x) ∧
    (mapIn l d = true → ∃ K E k t q, (d, OSh.map K E k t) ∈ l ∧ getM (encMem l y) d = some (.map K E k t q) ∧ getM s.mem d = some (.map K E k t q)) ∧
    (∀ o, getM (encMem l y) d = some o → rowIn l d = true ∨ boxIn l d = true ∨ mapIn l d = true)
  | [], y, d, _ => ⟨fun h => (by cases h), fun h => (by cases h), fun h => (by cases h), fun o h => (by cases h)⟩
  | (e, .box h) :: l, y, d, hd => by
    simp only [decMem] at hd
    cases hg : getM s.mem e with
    | none => rw [hg] at hd; cases hd
    | some o =>
      rw [hg] at hd
      cases o with
      | row _ _ _ => cases hd
      | map _ _ _ _ _ => cases hd
      | box v =>
        simp only at hd
        cases hx : h.dec s.mem v with
        | none => rw [hx] at hd; cases hd
        | some x =>
          rw [hx] at hd
          simp only [Option.bind_some] at hd
          cases hr : decMem s.mem l with
          | none => rw [hr] at hd; cases hd
          | some b =>
            rw [hr] at hd
            cases hd
            obtain ⟨i1, i2, i4, i3⟩ := encMem_out (d := d) hr
            by_cases hed : e = d
            · subst hed
              refine ⟨fun h => by simp [rowIn] at h, fun _ => ⟨h, v, x, by simp, by simp [encMem, getM], hg, hx⟩, fun h => by simp [mapIn] at h, fun o _ => .inr (.inl (by simp [boxIn]))⟩
            · refine ⟨fun h2 => ?_, fun h2 => ?_, fun h2 => ?_, fun o h2 => ?_⟩
              · simp only [rowIn, hed, if_false] at h2
                obtain ⟨E, t, k, h3, h4, h5⟩ := i1 h2
                exact ⟨E, t, k, by simp [h3], by simp only [encMem, getM, hed, if_false]; exact h4, h5⟩
              · simp only [boxIn, hed, if_false] at h2
                obtain ⟨h3, v3, x3, h4, h5, h6⟩ := i2 h2
                exact ⟨h3, v3, x3, by simp [h4], by simp only [encMem, getM, hed, if_false]; exact h5, h6⟩
              · simp only [mapIn, hed, if_false] at h2
                obtain ⟨K, E, k, t, q, h4, h5, h6⟩ := i4 h2
                exact ⟨K, E, k, t, q, by simp [h4], by simp only [encMem, getM, hed, if_false]; exact h5, h6⟩
              · simp only [encMem, getM, hed, if_false] at h2
                simp only [rowIn, boxIn, mapIn, hed, if_false]
                exact i3 o h2
  | (e, .row E t) :: l, y, d, hd => by
    have key : ∃ k b, y = (k, b) ∧ decMem s.mem l = some b ∧ (getM s.mem e = some (.row E t k) ∨ (getM s.mem e = none ∧ k = [])) := by
      simp only [decMem] at hd
      cases hg : getM s.mem e with
      | none =>
        rw [hg] at hd
        simp only at hd
        cases hr : decMem s.mem l with
        | none => rw [hr] at hd; cases hd
        | some b => rw [hr] at hd; cases hd; exact ⟨[], b, rfl, rfl, .inr ⟨rfl, rfl⟩⟩
      | some o =>
        rw [hg] at hd
        cases o with
        | box _ => cases hd
        | map _ _ _ _ _ => cases hd
        | row E' t' k =>
          simp only at hd
          split at hd
          · rename_i e2
            obtain ⟨rfl, rfl⟩ := e2
            cases hr : decMem s.mem l with
            | none => rw [hr] at hd; cases hd
            | some b => rw [hr] at hd; cases hd; exact ⟨k, b, rfl, rfl, .inl rfl⟩
          · cases hd
    obtain ⟨k, b, rfl, hr, hk⟩ := key
    obtain ⟨i1, i2, i4, i3⟩ := encMem_out (d := d) hr
    by_cases hed : e = d
    · subst hed
      refine ⟨fun _ => ⟨E, t, k, by simp, by simp [encMem, getM], hk⟩, fun h => by simp [boxIn] at h, fun h => by simp [mapIn] at h, fun o _ => .inl (by simp [rowIn])⟩
    · refine ⟨fun h2 => ?_, fun h2 => ?_, fun h2 => ?_, fun o h2 => ?_⟩
      · simp only [rowIn, hed, if_false] at h2
        obtain ⟨E', t', k', h3, h4, h5⟩ := i1 h2
        exact ⟨E', t', k', by simp [h3], by simp only [encMem, getM, hed, if_false]; exact h4, h5⟩
      · simp only [boxIn, hed, if_false] at h2
        obtain ⟨h3, v3, x3, h4, h5, h6⟩ := i2 h2
        exact ⟨h3, v3, x3, by simp [h4], by simp only [encMem, getM, hed, if_false]; exact h5, h6⟩
      · simp only [mapIn, hed, if_false] at h2
        obtain ⟨K, E, k, t, q, h4, h5, h6⟩ := i4 h2
        exact ⟨K, E, k, t, q, by simp [h4], by simp only [encMem, getM, hed, if_false]; exact h5, h6⟩
      · simp only [encMem, getM, hed, if_false] at h2
        simp only [rowIn, boxIn, mapIn, hed, if_false]
        exact i3 o h2
  | (e, .map K E k t) :: l, y, d, hd => by
    have key : ∃ q b, y = (q, b) ∧ decMem s.mem l = some b ∧ getM s.mem e = some (.map K E k t q) := by
      simp only [decMem] at hd
      cases hg : getM s.mem e with
      | none => rw [hg] at hd; cases hd
      | some o =>
        rw [hg] at hd
        cases o with
        | box _ => cases hd
        | row _ _ _ => cases hd
        | map K' E' k' t' q =>
          simp only at hd
          split at hd
          · rename_i e2
            obtain ⟨⟨rfl, rfl⟩, rfl, rfl⟩ := e2
            cases hr : decMem s.mem l with
            | none => rw [hr] at hd; cases hd
            | some b => rw [hr] at hd; cases hd; exact ⟨q, b, rfl, rfl, rfl⟩
          · cases hd
    obtain ⟨q, b, rfl, hr, hk⟩ := key
    obtain ⟨i1, i2, i4, i3⟩ := encMem_out (d := d) hr
    by_cases hed : e = d
    · subst hed
      refine ⟨fun h => by simp [rowIn] at h, fun h => by simp [boxIn] at h, fun _ => ⟨K, E, k, t, q, by simp, by simp [encMem, getM], hk⟩, fun o _ => .inr (.inr (by simp [mapIn]))⟩
    · refine ⟨fun h2 => ?_, fun h2 => ?_, fun h2 => ?_, fun o h2 => ?_⟩
      · simp only [rowIn, hed, if_false] at h2
        obtain ⟨E', t', k', h3, h4, h5⟩ := i1 h2
        exact ⟨E', t', k', by simp [h3], by simp only [encMem, getM, hed, if_false]; exact h4, h5⟩
      · simp only [boxIn, hed, if_false] at h2
        obtain ⟨h3, v3, x3, h4, h5, h6⟩ := i2 h2
        exact ⟨h3, v3, x3, by simp [h4], by simp only [encMem, getM, hed, if_false]; exact h5, h6⟩
      · simp only [mapIn, hed, if_false] at h2
        obtain ⟨K, E, k, t, q, h4, h5, h6⟩ := i4 h2
        exact ⟨K, E, k, t, q, by simp [h4], by simp only [encMem, getM, hed, if_false]; exact h5, h6⟩
      · simp only [encMem, getM, hed, if_false] at h2
        simp only [rowIn, boxIn, mapIn, hed, if_false]
        exact i3 o h2
/-- A value at a cut says no more than it did. -/
theorem Sh.fr (h : Sim cx s a w ρ) {l : List (Nat × OSh)} {y : memDen l} (hd : decMem s.mem l = some y) (ho : ∀ b, b < w.heap.size → Own cx (cutH s.mem ρ) (encMem l y) b → Own cx ρ s.mem b) :
    ∀ {g : Sh} {v : V} {x : g.den} {cs : List Value}, g.ok l = true → g.dec s.mem v = some x → FR w (Own cx ρ s.mem) ρ s.mem v cs → FR w (Own cx (cutH s.mem ρ) (encMem l y)) (cutH s.mem ρ) (encMem l y) (g.enc x) cs
  | .val t, v, x, cs, _, hx, hf => by
    simp only [Sh.dec] at hx
    exact FR.enc (t := t) (DR.keep (fun _ _ _ => rfl) (Nat.le_refl _) ho (dec_plain hx hf))
  | .nilp, v, x, cs, _, hx, hf => by cases v <;> simp only [Sh.dec] at hx <;> first | (cases hx; done) | exact hf
  | .dead, v, x, cs, _, hx, hf => by cases v <;> simp only [Sh.dec] at hx <;> first | (cases hx; done) | exact hf
  | .mp d, v, x, cs, hok, hx, hf => by
    obtain ⟨K, E, k, t, q, _, h2, h3⟩ := (encMem_out (d := d) hd).2.2.1 hok
    cases v <;> simp only [Sh.dec] at hx <;> try (cases hx; done)
    split at hx
    · rename_i hde
      subst hde
      obtain ⟨r, hr, e, _⟩ := hf
      exact ⟨r, by unfold cutH; rw [h3]; exact hr, e, K, E, k, t, q, h2⟩
    · cases hx
  | .agg p, v, x, cs, hok, hx, hf => by
    cases v <;> simp only [Sh.dec] at hx <;> try (cases hx; done)
    exact Sh.fr h hd ho (g := p) hok hx hf
  | .lit n p, v, x, cs, hok, hx, hf => by
    cases v <;> simp only [Sh.dec] at hx <;> try (cases hx; done)
    split at hx
    · rename_i hk
      subst hk
      obtain ⟨b, off, us, e, hb, hlt, hu, hc⟩ := hf
      exact ⟨b, off, us, e, fun hx => hb (ho b hlt hx), hlt, Sh.fr h hd ho (g := p) hok hx hu, hc⟩
    · cases hx
  | .pair p q, v, x, cs, hok, hx, hf => by
    cases v <;> simp only [Sh.dec] at hx <;> try (cases hx; done)
    rename_i u v
    simp only [Sh.ok, Bool.and_eq_true] at hok
    obtain ⟨c1, c2, e, h1, h2⟩ := hf
    cases hp : p.dec s.mem u with
    | none => rw [hp] at hx; cases hx
    | some z =>
      rw [hp] at hx
      simp only [Option.bind_some] at hx
      cases hq : q.dec s.mem v with
      | none => rw [hq] at hx; cases hx
      | some z2 => rw [hq] at hx; cases hx; exact ⟨c1, c2, e, Sh.fr h hd ho hok.1 hp h1, Sh.fr h hd ho hok.2 hq h2⟩
  | .rs d, v, x, cs, hok, hx, hf => by
    obtain ⟨E, t, k, _, h2, h3⟩ := (encMem_out (d := d) hd).1 hok
    cases v <;> simp only [Sh.dec] at hx <;> try (cases hx; done)
    case rs e =>
      split at hx
      · rename_i hde
        subst hde
        obtain ⟨e1, E2, t2, l2, hm⟩ := hf
        exact ⟨by rw [e1]; unfold cutH; rw [hm], E, t, k, h2⟩
      · cases hx
    case nils =>
      cases hm : getM s.mem d with
      | some o => rw [hm] at hx; cases hx
      | none =>
        have : cs = [.slice none 0 0] := hf
        exact ⟨by rw [this]; unfold cutH; rw [hm], E, t, k, h2⟩
  | .ptr d p, v, x, cs, hok, hx, hf => by
    obtain ⟨hs, v0, x0, _, h2, h3, h4⟩ := (encMem_out (d := d) hd).2.1 hok
    cases v <;> simp only [Sh.dec] at hx <;> try (cases hx; done)
    split at hx
    · rename_i hde
      obtain ⟨rfl, hq⟩ := hde
      obtain ⟨b, off, v1, hr, hm, hp, e⟩ := hf
      rw [h3] at hm
      cases hm
      rw [flds_out hq] at hp
      exact ⟨b, off, _, by unfold cutH; rw [h3]; exact hr, h2, same_path _ (Sh.dec_same h4) hp, e⟩
    · cases hx
theorem same_isAgg {u v : V} (h : same u v = true) : u.isAgg = v.isAgg := by
  cases u <;> cases v <;> simp [same, V.one] at h <;> rfl
theorem Sh.dec_known {m : Mem} {h : Sh} {v : V} {x : h.den} (hd : h.dec m v = some x) : (∀ c, v ≠ .tup c) ∧ v ≠ .any ∧ v ≠ .undef := by
  have := Sh.dec_same hd
  refine ⟨fun c e => ?_, fun e => ?_, fun e => ?_⟩ <;> subst e <;> simp [same, V.one] at this
theorem Sh.enc_known {h : Sh} {m : Mem} {v : V} {x : h.den} (hd : h.dec m v = some x) : (∀ c, h.enc x ≠ .tup c) ∧ h.enc x ≠ .any ∧ h.enc x ≠ .undef := by
  have := Sh.dec_same hd
  exact same_known this
theorem V1.turn {own own' : Nat → Prop} {m m' : Mem} {u v : V} {x : Value} (hs : same v u = true) (hk : (∀ c, v ≠ .tup c) ∧ v ≠ .any ∧ v ≠ .undef) (hf : ∀ cs, FR w own ρ m v cs → FR w own' ρ' m' u cs) (h : V1 w own ρ m v x) : V1 w own' ρ' m' u x := by
  have ha := same_isAgg hs
  cases hv : v.isAgg with
  | true =>
    have : ∃ cs : List Value, x = .agg cs.toArray ∧ FR w own ρ m v cs := by cases v <;> simp [V.isAgg] at hv <;> exact h
    obtain ⟨cs, e, hc⟩ := this
    rw [e]
    exact V1.of_cells (hf cs hc) (ha ▸ hv)
  | false =>
    have : FR w own ρ m v [x] := by
      cases v
      case any => exact (hk.2.1 rfl).elim
      case undef => exact (hk.2.2 rfl).elim
      case tup c => exact (hk.1 c rfl).elim
      case agg c => simp [V.isAgg] at hv
      case arr n t l => simp [V.isAgg] at hv
      all_goals exact h
    exact V1.of_one (hf _ this) (ha ▸ hv)
/-- At a cut: the state's own data, and no more. -/
theorem decSt0_sound {R : Type} (h : Sim cx s a w ρ) {sh : Shape} (hok : sh.ok = true) {K : slotsDen sh.slots → memDen sh.mem → Option R} {z : R} (hd : decSt0 sh s K = some z) :
    ∃ x y, K x y = some z ∧ decSlots s sh.slots = some x ∧ decMem s.mem sh.mem = some y ∧ Sim cx (encSt sh x y) a w (cutH s.mem ρ) := by
  unfold decSt0 at hd
  split at hd
  · rename_i hn
    cases hx : decSlots s sh.slots with
    | none => rw [hx] at hd; cases hd
    | some x =>
      rw [hx] at hd
      simp only [Option.bind_some] at hd
      cases hy : decMem s.mem sh.mem with
      | none => rw [hy] at hd; cases hd
      | some y =>
        rw [hy] at hd
        simp only [Option.bind_some] at hd
        simp only [Shape.ok, Bool.and_eq_true, List.all_eq_true] at hok
        have hout := fun d => encMem_out (s := s) (d := d) hy
        -- a key of the cut is a key that was, or a row that is nil
        have was : ∀ d o, getM (encMem sh.mem y) d = some o → ∀ b, hb (cutH s.mem ρ d) = some b → ∃ o', getM s.mem d = some o' ∧ hb (ρ d) = some b := by
          intro d o _ b hb'
          unfold cutH at hb'
          cases hg : getM s.mem d with
          | none => rw [hg] at hb'; cases hb'
          | some o' => rw [hg] at hb'; exact ⟨o', rfl, hb'⟩
        have hown : ∀ b, b < w.heap.size → Own cx (cutH s.mem ρ) (encMem sh.mem y) b → Own cx ρ s.mem b := by
          rintro b _ (h1 | ⟨d, o, hd', hb'⟩)
          · exact .inl h1
          · obtain ⟨o', h2, h3⟩ := was d o hd' b hb'; exact .inr ⟨d, o', h2, h3⟩
        have frs := fun {g : Sh} {v : V} {q : g.den} {cs : List Value} => Sh.fr (g := g) (v := v) (x := q) (cs := cs) h hy hown
        refine ⟨x, y, hd, rfl, rfl, ⟨h.sz.trans hn, h.df, h.be, h.fo, ?_, ?_, ?_, ?_, ?_, h.pl, ?_⟩⟩
        · intro d o b hd' hb'
          obtain ⟨o', h2, h3⟩ := was d o hd' b hb'
          exact h.ge d o' b h2 h3
        · intro d o b hd' hb'
          obtain ⟨o', h2, h3⟩ := was d o hd' b hb'
          exact h.no d o' b h2 h3
        · intro d d' o o2 b hd' hd2 h1 h2
          obtain ⟨o', h3, h4⟩ := was d o hd' b h1
          obtain ⟨o2', h5, h6⟩ := was d' o2 hd2 b h2
          exact h.ds d d' o' o2' b h3 h5 h4 h6
        · intro d o hd'
          have hmem : getM (encMem sh.mem y) d = some o := hd'
          rcases (hout d).2.2.2 o hmem with hr | hr | hr
          · obtain ⟨E, t, k, h1, h2, h3⟩ := (hout d).1 hr
            rw [h2] at hmem
            cases hmem
            have hpos : 0 < t.size := by
              have := (hok.2 _ h1).1
              simpa [OSh.ok] using this
            rcases h3 with h3 | ⟨h3, rfl⟩
            · obtain ⟨_, css, h4, h5⟩ := h.ob d _ h3
              refine ⟨hpos, css, ?_, h5.mono fun _ _ hx => DR.keep (fun _ _ _ => rfl) (Nat.le_refl _) hown hx⟩
              have : cutH s.mem ρ d = ρ d := by unfold cutH; rw [h3]
              rw [this]
              exact h4
            · have : cutH s.mem ρ d = .slice none 0 0 := by unfold cutH; rw [h3]
              refine ⟨hpos, [], ?_, rfl⟩
              rw [this]
              exact ⟨by simp, .inl ⟨rfl, rfl⟩⟩
          · obtain ⟨g, v, q, h1, h2, h3, h4⟩ := (hout d).2.1 hr
            rw [h2] at hmem
            cases hmem
            obtain ⟨b, cs, T, h5, h6, h7, hT⟩ := h.ob d _ h3
            have : cutH s.mem ρ d = ρ d := by unfold cutH; rw [h3]
            refine ⟨b, cs, T, by rw [this]; exact h5, h6, frs ?_ h4 h7, fun U hU => ?_⟩
            rotate_left
            · rcases (Sh.dec_tail h4).2 with e | e
              · rw [e] at hU; cases hU
              · exact hT U (by rw [← e]; exact hU)
            have := (hok.2 _ h1).1
            simpa [OSh.ok] using this
          · obtain ⟨K1, E1, k1, t1, q1, _, h2, h3⟩ := (hout d).2.2.1 hr
            rw [h2] at hmem
            cases hmem
            obtain ⟨r, es, ck, h5, h6, h7⟩ := h.ob d _ h3
            have : cutH s.mem ρ d = ρ d := by unfold cutH; rw [h3]
            exact ⟨r, es, ck, by rw [this]; exact h5, h6, h7.keep (fun _ _ _ => rfl) (Nat.le_refl _) hown⟩
        · have base : ∀ t, VR w (Own cx (cutH s.mem ρ) (encMem sh.mem y)) (cutH s.mem ρ) (encMem sh.mem y) ((Fr.mk sh.depth).get t) (a.tmps.getD t undef) := by
            intro t; rw [Fr.get_mk]; trivial
          have one : ∀ (d : Nat) (g : Sh) (q : g.den) (f : Fr), g.ok sh.mem = true → g.dec s.mem (s.fr.get d) = some q →
              (∀ t, VR w (Own cx (cutH s.mem ρ) (encMem sh.mem y)) (cutH s.mem ρ) (encMem sh.mem y) (f.get t) (a.tmps.getD t undef)) →
              ∀ t, VR w (Own cx (cutH s.mem ρ) (encMem sh.mem y)) (cutH s.mem ρ) (encMem sh.mem y) ((f.set d (g.enc q)).get t) (a.tmps.getD t undef) := by
            intro d g q f hgok hq hf t
            rcases Fr.get_set f d t (g.enc q) with ⟨e, h1 | h1⟩ | ⟨_, h1⟩
            · rw [h1, e]
              have hkn := Sh.dec_known hq
              exact VR.of_V1 ((V1.of_VR (h.fr d) hkn.1).turn (Sh.dec_same hq) hkn (fun cs hc => frs hgok hq hc)) (Sh.enc_known hq).1
            · rw [h1]; trivial
            · rw [h1]; exact hf t
          have all : ∀ (l : List (Nat × Sh)) (x : slotsDen l), (∀ p ∈ l, p.2.ok sh.mem = true) → decSlots s l = some x →
              ∀ t, VR w (Own cx (cutH s.mem ρ) (encMem sh.mem y)) (cutH s.mem ρ) (encMem sh.mem y) ((encSlots l x (Fr.mk sh.depth)).get t) (a.tmps.getD t undef) := by
            intro l
            induction l with
            | nil => intro x _ _; exact base
            | cons p l ih =>
              obtain ⟨d, g⟩ := p
              cases l with
              | nil =>
                intro x hall hdx
                exact one d g x _ (hall (d, g) (by simp)) hdx base
              | cons p2 l =>
                intro x hall hdx
                simp only [decSlots] at hdx
                cases hq : g.dec s.mem (s.fr.get d) with
                | none => rw [hq] at hdx; cases hdx
                | some q =>
                  rw [hq] at hdx
                  simp only [Option.bind_some] at hdx
                  cases hr : decSlots s (p2 :: l) with
                  | none => rw [hr] at hdx; cases hdx
                  | some b =>
                    rw [hr] at hdx
                    cases hdx
                    exact one d g q _ (hall (d, g) (by simp)) hq (ih b (fun p hp => hall p (by simp [hp])) hr)
          exact all sh.slots x (fun p hp => hok.1 p hp) hx
        · intro d v o hp hmem
          have hmem : getM (encMem sh.mem y) d = some o := hmem
          have hd1 := h.pl d v hp
          rcases (hout d).2.2.2 o hmem with hr | hr | hr
          · obtain ⟨E, t, k, h1, _, _⟩ := (hout d).1 hr
            have := (hok.2 _ h1).2
            simp only [rowNm, decide_eq_true_eq] at this
            omega
          · obtain ⟨_, _, _, _, _, h3, _⟩ := (hout d).2.1 hr
            unfold cutH
            rw [h3]
            exact h.pn d v _ hp h3
          · obtain ⟨_, _, _, _, _, _, _, h3⟩ := (hout d).2.2.1 hr
            unfold cutH
            rw [h3]
            exact h.pn d v _ hp h3
  · cases hd
theorem decSt_sound {R : Type} (h : Sim cx s a w ρ) {lo : Nat} (hlo : ∀ k, lo ≤ k → cx.pin k = none) {sh : Shape} (hok : sh.ok = true) {K : slotsDen sh.slots → memDen sh.mem → Option R} {z : R} (hd : decSt lo sh s K = some z) :
    ∃ x y, K x y = some z ∧ Sim cx (encSt sh x y) a w (cutH (s.rens (allSwaps lo sh s)).mem fun k => ρ (back (allSwaps lo sh s) k)) := by
  have h1 := Sim.rens (allSwaps lo sh s) h (fun p hp => ⟨hlo _ (allSwaps_lo p hp).1, hlo _ (allSwaps_lo p hp).2⟩)
  obtain ⟨x, y, h2, _, _, h3⟩ := decSt0_sound h1 hok hd
  exact ⟨x, y, h2, h3⟩
theorem Sim.lo (h : Sim cx s a w ρ) (k : Nat) (hk : 1000 ≤ k) : cx.pin k = none := by
  cases hp : cx.pin k with
  | none => rfl
  | some x => have := h.pl k x hp; omega
end
end Go.Rf
