/- The state that a symbolic state stands for; how it is kept by steps. -/
import Derived.Test.YthdddaikdiaijaaDoorRfD
namespace Go.Rf
open Go.RowKit (Below)
/-! ### the frame's tree -/
theorem Fr.get_set : ∀ (f : Fr) (n m : Nat) (v : V), (m = n ∧ ((f.set n v).get m = v ∨ (f.set n v).get m = .any)) ∨ (m ≠ n ∧ (f.set n v).get m = f.get m)
  | .lf v0, n, m, v => by
    cases n with
    | zero => cases m with
      | zero => exact .inl ⟨rfl, .inl rfl⟩
      | succ m => exact .inr ⟨by omega, rfl⟩
    | succ n => cases m with
      | zero => exact .inr ⟨by omega, rfl⟩
      | succ m => by_cases h : m = n
                  · exact .inl ⟨by omega, .inr rfl⟩
                  · exact .inr ⟨by omega, rfl⟩
  | .nd l r, n, m, v => by
    have hl := Fr.get_set l (n / 2) (m / 2) v
    have hr := Fr.get_set r (n / 2) (m / 2) v
    have en : ∀ k : Nat, k % 2 = 0 ∨ k % 2 = 1 := by omega
    rcases en n with hn | hn <;> rcases en m with hm | hm <;> simp only [Fr.set, Fr.get, hn, hm]
    · rcases hl with ⟨h1, h2⟩ | ⟨h1, h2⟩
      · exact .inl ⟨by omega, h2⟩
      · exact .inr ⟨by omega, h2⟩
    · exact .inr ⟨by omega, trivial⟩
    · exact .inr ⟨by omega, trivial⟩
    · rcases hr with ⟨h1, h2⟩ | ⟨h1, h2⟩
      · exact .inl ⟨by omega, h2⟩
      · exact .inr ⟨by omega, h2⟩
theorem Fr.get_map (g : V → V) (hg : g .any = .any) : ∀ (f : Fr) (n : Nat), (f.map g).get n = g (f.get n)
  | .lf v, n => by cases n with
    | zero => rfl
    | succ n => exact hg.symm
  | .nd l r, n => by
    have en : n % 2 = 0 ∨ n % 2 = 1 := by omega
    rcases en with h | h <;> simp only [Fr.map, Fr.get, h]
    · exact Fr.get_map g hg l (n / 2)
    · exact Fr.get_map g hg r (n / 2)
theorem Fr.get_mk : ∀ (d n : Nat), (Fr.mk d).get n = .any
  | 0, n => by cases n <;> rfl
  | d + 1, n => by
    have en : n % 2 = 0 ∨ n % 2 = 1 := by omega
    rcases en with h | h <;> simp only [Fr.mk, Fr.get, h] <;> exact Fr.get_mk d (n / 2)
/-! ### keys -/
theorem getM_setM_ne : ∀ {m : Mem} {d e : Nat} {o : Obj}, d ≠ e → getM (setM m d o) e = getM m e
  | [], _, _, _, _ => rfl
  | (k, x) :: m, d, e, o, h => by
    simp only [setM]
    split
    · rename_i hk
      subst hk
      simp [getM, h]
    · simp only [getM]
      rw [getM_setM_ne h]
theorem getM_setM : ∀ {m : Mem} {d : Nat} {o o' : Obj}, getM m d = some o' → getM (setM m d o) d = some o
  | [], _, _, _, h => by cases h
  | (k, x) :: m, d, o, o', h => by
    simp only [setM]
    split
    · rename_i hk
      subst hk
      simp [getM]
    · rename_i hk
      simp only [getM, hk, if_false] at h ⊢
      exact getM_setM h
theorem getM_delM : ∀ (m : Mem) (d e : Nat), getM (delM m d) e = if d = e then none else getM m e
  | [], d, e => by simp [delM, getM]
  | (k, x) :: m, d, e => by
    simp only [delM]
    by_cases hk : k = d
    · subst hk
      rw [if_pos rfl, getM_delM m k e]
      by_cases he : k = e <;> simp [getM, he]
    · rw [if_neg hk]
      simp only [getM]
      by_cases he : k = e
      · subst he
        have : ¬ d = k := fun h => hk h.symm
        simp [this]
      · simp only [he, if_false]
        exact getM_delM m d e
theorem boxesHave_out : ∀ {m : Mem} {d e : Nat} {v : V}, boxesHave d m = false → getM m e = some (.box v) → v.has d = false
  | [], _, _, _, _, h => by cases h
  | (k, .box u) :: m, d, e, v, hb, h => by
    simp only [boxesHave, Bool.or_eq_false_iff] at hb
    simp only [getM] at h
    split at h
    · cases h; exact hb.1
    · exact boxesHave_out hb.2 h
  | (k, .row _ _ _) :: m, d, e, v, hb, h => by
    simp only [boxesHave] at hb
    simp only [getM] at h
    split at h
    · cases h
    · exact boxesHave_out hb h
  | (k, .map _ _ _ _ _) :: m, d, e, v, hb, h => by
    simp only [boxesHave] at hb
    simp only [getM] at h
    split at h
    · cases h
    · exact boxesHave_out hb h
theorem boxesHaveE_out : ∀ {m : Mem} {d e : Nat} {v : V}, boxesHaveE d m = false → getM m e = some (.box v) → v.hasE d = false
  | [], _, _, _, _, h => by cases h
  | (k, .box u) :: m, d, e, v, hb, h => by
    simp only [boxesHaveE, Bool.or_eq_false_iff] at hb
    simp only [getM] at h
    split at h
    · cases h; exact hb.1
    · exact boxesHaveE_out hb.2 h
  | (k, .row _ _ _) :: m, d, e, v, hb, h => by
    simp only [boxesHaveE] at hb
    simp only [getM] at h
    split at h
    · cases h
    · exact boxesHaveE_out hb h
  | (k, .map _ _ _ _ _) :: m, d, e, v, hb, h => by
    simp only [boxesHaveE] at hb
    simp only [getM] at h
    split at h
    · cases h
    · exact boxesHaveE_out hb h
def frzO (d : Nat) (E : TypeId) (t : Ty) (l : List t.den) : Obj → Obj
  | .box v => .box (v.frz d E t l)
  | o => o
theorem getM_frzM (d : Nat) (E : TypeId) (t : Ty) (l : List t.den) : ∀ (m : Mem) (e : Nat), getM (frzM d E t l m) e = (getM m e).map (frzO d E t l)
  | [], _ => rfl
  | (k, .box u) :: m, e => by
    simp only [frzM, getM]
    split
    · rfl
    · exact getM_frzM d E t l m e
  | (k, .row _ _ _) :: m, e => by
    simp only [frzM, getM]
    split
    · rfl
    · exact getM_frzM d E t l m e
  | (k, .map _ _ _ _ _) :: m, e => by
    simp only [frzM, getM]
    split
    · rfl
    · exact getM_frzM d E t l m e
/-! ### the relation -/
/-- Nothing turns but blocks that may. -/
structure Bel (ok : Nat → Prop) (w w' : World) : Prop where
  os : w'.os = w.os
  tape : w'.tape = w.tape
  output : w'.output = w.output
  size : w.heap.size ≤ w'.heap.size
  block : ∀ k, k < w.heap.size → ¬ ok k → w'.heap[k]? = w.heap[k]?
theorem Bel.refl (ok : Nat → Prop) (w : World) : Bel ok w w := ⟨rfl, rfl, rfl, Nat.le_refl _, fun _ _ _ => rfl⟩
theorem Bel.trans {ok : Nat → Prop} {a b c : World} (h : Bel ok a b) (k : Bel ok b c) : Bel ok a c :=
  ⟨k.os.trans h.os, k.tape.trans h.tape, k.output.trans h.output, Nat.le_trans h.size k.size, fun i hi hn => (k.block i (Nat.lt_of_lt_of_le hi h.size) hn).trans (h.block i hi hn)⟩
theorem Bel.mono {ok ok' : Nat → Prop} {w w' : World} (h : Bel ok w w') (hk : ∀ k, k < w.heap.size → ok k → ok' k) : Bel ok' w w' :=
  ⟨h.os, h.tape, h.output, h.size, fun i hi hn => h.block i hi fun x => hn (hk i hi x)⟩
theorem Bel.of {ok : Nat → Prop} {w w' : World} (h : Below w.heap.size w w') : Bel ok w w' := ⟨h.os, h.tape, h.output, h.size, fun k hk _ => h.block k hk⟩
structure Cx where
  own : Nat → Prop
  w0 : World
  /-- Blocks of before that may turn. -/
  mine : Nat → Prop
  /-- Keys whose handles stay as they are. -/
  pin : Nat → Option Value
  /-- Keys whose handles are at the end as they were. -/
  keep : Nat → Option Value
def Cx.ok (cx : Cx) (b : Nat) : Prop := cx.w0.heap.size ≤ b ∨ cx.mine b
def Own (cx : Cx) (ρ : Nat → Value) (m : Mem) (b : Nat) : Prop := cx.own b ∨ ∃ d o, getM m d = some o ∧ hb (ρ d) = some b
/-! ### marks -/
theorem tail_one : ∀ {v : V}, v.one = true → v.tail = none := by
  intro v h
  cases v <;> first | rfl | cases h
theorem same_tail : ∀ {a b : V}, same a b = true → a.tail = b.tail := by
  intro a
  induction a with
  | pair x y _ ihy =>
    intro b h
    cases b <;> simp only [same, V.one, Bool.false_and, Bool.and_eq_true] at h <;> first | (cases h; done) | (show y.tail = _; rw [ihy h.2]; rfl)
  | agg x _ => intro b h; cases b <;> simp only [same, V.one, Bool.false_and] at h <;> first | (cases h; done) | rfl
  | unit => intro b h; cases b <;> simp only [same, V.one, Bool.false_and] at h <;> first | (cases h; done) | rfl
  | arr n t l =>
    intro b h
    cases b <;> simp only [same, V.one, Bool.false_and, Bool.and_eq_true, decide_eq_true_eq] at h <;> first | (cases h; done) | skip
    obtain ⟨rfl, rfl⟩ := h
    cases t <;> rfl
  | _ => intro b h; cases b <;> simp only [same, V.one, Bool.true_and, Bool.false_and] at h <;> first | (cases h; done) | rfl
theorem same_tag {a b : V} (h : same a b = true) : a.tag = b.tag := by
  cases a <;> cases b <;> first | rfl | (simp only [same, V.one, Bool.false_and, Bool.and_false] at h; first | (cases h; done) | exact same_tail h)
theorem tail_killIn (d : Nat) : ∀ v : V, (v.killIn d).tail = v.tail := by
  intro v
  induction v with
  | pair a b _ ihb => exact ihb
  | rs e => simp only [V.killIn]; split <;> rfl
  | mp e => simp only [V.killIn]; split <;> rfl
  | ptr e p => simp only [V.killIn]; split <;> rfl
  | eptr e i p => simp only [V.killIn]; split <;> rfl
  | sptr k u => simp only [V.killIn]; split <;> rfl
  | _ => rfl
theorem tag_killIn (d : Nat) (v : V) : (v.killIn d).tag = v.tag := by
  cases v
  case agg c => exact tail_killIn d c
  all_goals first | rfl | (simp only [V.killIn]; split <;> rfl)
theorem tail_frz (d : Nat) (E : TypeId) (t : Ty) (l : List t.den) : ∀ v : V, (v.frz d E t l).tail = v.tail := by
  intro v
  induction v with
  | pair a b _ ihb => exact ihb
  | rs e => simp only [V.frz]; split <;> rfl
  | _ => rfl
theorem tag_frz (d : Nat) (E : TypeId) (t : Ty) (l : List t.den) (v : V) : (v.frz d E t l).tag = v.tag := by
  cases v
  case agg c => exact tail_frz d E t l c
  all_goals first | rfl | (simp only [V.frz]; split <;> rfl)
theorem tail_ren (d e : Nat) : ∀ v : V, (v.ren d e).tail = v.tail := by
  intro v
  induction v with
  | pair a b _ ihb => exact ihb
  | _ => rfl
theorem tag_ren (d e : Nat) (v : V) : (v.ren d e).tag = v.tag := by
  cases v <;> first | rfl | exact tail_ren d e _
theorem tail_rn (f : Nat → Nat) : ∀ v : V, (v.rn f).tail = v.tail := by
  intro v
  induction v with
  | pair a b _ ihb => exact ihb
  | _ => rfl
theorem tag_rn (f : Nat → Nat) (v : V) : (v.rn f).tag = v.tag := by
  cases v <;> first | rfl | exact tail_rn f _
theorem dec_tail {m : Mem} : ∀ {t : Ty} {v : V} {x : t.den}, dec m t v = some x → ((enc t x).tail = none ∨ (enc t x).tail = v.tail) ∧ ((enc t x).tag = none ∨ (enc t x).tag = v.tag) := by
  intro t
  induction t with
  | pair a b _ ihb =>
    intro v x h
    cases v <;> simp only [dec] at h <;> try (cases h; done)
    rename_i u w
    obtain ⟨y, _, h⟩ := Option.bind_eq_some_iff.1 h
    obtain ⟨z, h2, h⟩ := Option.bind_eq_some_iff.1 h
    cases h
    exact ⟨(ihb h2).1, .inl rfl⟩
  | agg a ih =>
    intro v x h
    cases v <;> simp only [dec] at h <;> try (cases h; done)
    exact ⟨.inl rfl, (ih h).1⟩
  | arr n a _ =>
    intro v x h
    cases v <;> simp only [dec] at h <;> try (cases h; done)
    split at h
    · rename_i he
      obtain ⟨rfl, rfl⟩ := he
      cases h
      exact ⟨.inr rfl, .inl rfl⟩
    · cases h
  | _ => intro v x _; exact ⟨.inl rfl, .inl rfl⟩
theorem Sh.dec_tail {m : Mem} : ∀ {g : Sh} {v : V} {x : g.den}, g.dec m v = some x → ((g.enc x).tail = none ∨ (g.enc x).tail = v.tail) ∧ ((g.enc x).tag = none ∨ (g.enc x).tag = v.tag) := by
  intro g
  induction g with
  | val t => intro v x h; exact Rf.dec_tail h
  | pair a b _ ihb =>
    intro v x h
    cases v <;> simp only [Sh.dec] at h <;> try (cases h; done)
    obtain ⟨y, _, h⟩ := Option.bind_eq_some_iff.1 h
    obtain ⟨z, h2, h⟩ := Option.bind_eq_some_iff.1 h
    cases h
    exact ⟨(ihb h2).1, .inl rfl⟩
  | agg a ih =>
    intro v x h
    cases v <;> simp only [Sh.dec] at h <;> try (cases h; done)
    exact ⟨.inl rfl, (ih h).1⟩
  | _ => intro v x _; exact ⟨.inl rfl, .inl rfl⟩
theorem FR.addTail {w : World} {own : Nat → Prop} {ρ : Nat → Value} {m : Mem} {T : TypeId} : ∀ {v : V} {cs : List Value}, FR w own ρ m v cs → FR w own ρ m (v.addTail T) cs := by
  intro v
  have base : ∀ {v : V} {cs : List Value}, FR w own ρ m v cs → FR w own ρ m (.pair v (.arr 0 (.fn T) [])) cs := fun h => ⟨_, [], by simp, h, ⟨rfl, rfl⟩⟩
  induction v with
  | pair a b _ ihb => rintro cs ⟨c1, c2, e, h1, h2⟩; exact ⟨c1, c2, e, h1, ihb h2⟩
  | _ => intro cs h; exact base h
theorem FR.tagZ {w : World} {own : Nat → Prop} {ρ : Nat → Value} {m : Mem} {P : Program} {T : TypeId} {v : V} {cs : List Value} (h : FR w own ρ m v cs) : FR w own ρ m (tagZ P T v) cs := by
  unfold Rf.tagZ
  split
  · split
    · exact FR.addTail (v := _) h
    · exact h
  · exact h
theorem tail_addTail (T : TypeId) : ∀ v : V, (v.addTail T).tail = some T := by
  intro v
  induction v with
  | pair a b _ ihb => exact ihb
  | _ => rfl
theorem tag_tagZ {P : Program} {T : TypeId} {v : V} (h : v.tag = none) : ∀ U, (tagZ P T v).tag = some U → T = U := by
  intro U hU
  unfold Rf.tagZ at hU
  split at hU
  · split at hU
    · simp only [V.tag, tail_addTail] at hU
      cases hU; rfl
    · rw [h] at hU; cases hU
  · rw [h] at hU; cases hU
theorem has_addTail (T : TypeId) (d : Nat) : ∀ v : V, (v.addTail T).has d = v.has d := by
  intro v
  induction v with
  | pair a b _ ihb => simp only [V.addTail, V.has, ihb]
  | _ => simp [V.addTail, V.has]
theorem has_tagZ {P : Program} {T : TypeId} {v : V} {d : Nat} (h : v.has d = false) : (tagZ P T v).has d = false := by
  unfold Rf.tagZ
  split
  · split
    · simp only [V.has, has_addTail] at h ⊢; exact h
    · exact h
  · exact h
def OR (base : Nat) (w : World) (own : Nat → Prop) (ρ : Nat → Value) (m : Mem) (d : Nat) : Obj → Prop
  | .box v => ∃ b cs T, ρ d = .pointer (some ⟨b, 0, none⟩) ∧ w.heap[b]? = some (.cells (List.toArray cs) T (0, 0)) ∧ FR w own ρ m v cs ∧ ∀ U, v.tag = some U → T = U
  | .row E t l => 0 < t.size ∧ ∃ css, w.ownsRow base E t.size (ρ d) l.length css ∧ Row (DR w own t) l css
  | .map _ _ k t l => ∃ r es clock, ρ d = .map (some r) ∧ w.heap[r]? = some (.map es clock) ∧ MR w own k t l es.toList
structure Sim (cx : Cx) (s : St) (a : Act) (w : World) (ρ : Nat → Value) : Prop where
  sz : a.tmps.size = s.n
  df : a.defers = []
  be : Bel cx.ok cx.w0 w
  fo : ∀ b, cx.own b → b < w.heap.size
  ge : ∀ d o b, getM s.mem d = some o → hb (ρ d) = some b → cx.ok b ∧ b < w.heap.size
  no : ∀ d o b, getM s.mem d = some o → hb (ρ d) = some b → ¬ cx.own b
  ds : ∀ d d' o o' b, getM s.mem d = some o → getM s.mem d' = some o' → hb (ρ d) = some b → hb (ρ d') = some b → d = d'
  ob : ∀ d o, getM s.mem d = some o → OR 0 w (Own cx ρ s.mem) ρ s.mem d o
  fr : ∀ t, VR w (Own cx ρ s.mem) ρ s.mem (s.fr.get t) (a.tmps.getD t undef)
  pl : ∀ d x, cx.pin d = some x → d < 1000
  pn : ∀ d x o, cx.pin d = some x → getM s.mem d = some o → ρ d = x
theorem OR.keep {base : Nat} {w w' : World} {own own' : Nat → Prop} {ρ ρ' : Nat → Value} {m m' : Mem} {d : Nat} {o : Obj} (h : OR base w own ρ m d o) (hρ : ρ' d = ρ d)
    (hblk : ∀ b, hb (ρ d) = some b → w'.heap[b]? = w.heap[b]?) (hw : ∀ b, b < w.heap.size → ¬ own b → w'.heap[b]? = w.heap[b]?) (hs : w.heap.size ≤ w'.heap.size)
    (ho : ∀ b, b < w.heap.size → own' b → own b) (hk : ∀ v, o = .box v → ∀ e, v.has e = true → Keeps m m' ρ ρ' e) : OR base w' own' ρ' m' d o := by
  cases o with
  | box v =>
    obtain ⟨b, cs, T, h1, h2, h3, h4⟩ := h
    exact ⟨b, cs, T, by rw [hρ]; exact h1, by rw [hblk b (by rw [h1]; rfl)]; exact h2, h3.keep hw hs ho (hk v rfl), h4⟩
  | row E t l =>
    obtain ⟨hp, css, ⟨h1, h2⟩, h3⟩ := h
    refine ⟨hp, css, ⟨h1, ?_⟩, h3.mono fun _ _ hx => DR.keep hw hs ho hx⟩
    rw [hρ]
    rcases h2 with h2 | ⟨g, cap, cur, e, hb', hg, r⟩
    · exact .inl h2
    · exact .inr ⟨g, cap, cur, e, hb', by rw [hblk g (by rw [e]; rfl)]; exact hg, r⟩
  | map K E k t l =>
    obtain ⟨r, es, c, h1, h2, h3⟩ := h
    exact ⟨r, es, c, by rw [hρ]; exact h1, by rw [hblk r (by rw [h1]; rfl)]; exact h2, h3.keep hw hs ho⟩
section
variable {cx : Cx} {s s' : St} {a : Act} {w w' : World} {ρ ρ' : Nat → Value}
/-- What the rows' own facts give to a reading. -/
theorem Sim.rows (h : Sim cx s a w ρ) : ∀ d E t l, getM s.mem d = some (.row E t l) → ∃ css, Row (DR w (Own cx ρ s.mem) t) l css ∧ css.length = l.length * t.size ∧
      ((ρ d = .slice none 0 0 ∧ l = []) ∨ ∃ b cap, ρ d = .slice (some ⟨b, 0, none⟩) l.length cap ∧ l.length ≤ cap ∧ b < w.heap.size ∧ Cells w b 0 css) := by
  intro d E t l hd
  obtain ⟨_, css, ⟨h1, h2⟩, h3⟩ := h.ob d _ hd
  refine ⟨css, h3, h1, ?_⟩
  rcases h2 with ⟨e, h0⟩ | ⟨g, cap, cur, e, hb', hg, hle, _, hsz, htake⟩
  · exact .inl ⟨e, List.eq_nil_of_length_eq_zero h0⟩
  · refine .inr ⟨g, cap, e, hle, (Array.getElem?_eq_some_iff.1 hg).1, fun j u hu => ?_⟩
    rw [Nat.zero_add, cell_of_row w g j cur E (0, 0) hg]
    rw [← htake, List.getElem?_take] at hu
    split at hu
    · simpa using hu
    · cases hu
theorem Sim.rowOne (h : Sim cx s a w ρ) : ∀ E t l d, getM s.mem d = some (.row E t l) → (ρ d).oneCell' = true := by
  intro E t l d hd
  obtain ⟨_, _, _, ⟨e, _⟩ | ⟨_, _, e, _⟩⟩ := h.rows d E t l hd <;> rw [e] <;> rfl
/-- One step of all: the world, the handles and the memory turn. -/
theorem Sim.step (h : Sim cx s a w ρ) (hn : s'.n = s.n) (be : Bel cx.ok w w')
    (hw : ∀ b, b < w.heap.size → ¬ Own cx ρ s.mem b → w'.heap[b]? = w.heap[b]?) (ho : ∀ b, b < w.heap.size → Own cx ρ' s'.mem b → Own cx ρ s.mem b)
    (ge : ∀ d o b, getM s'.mem d = some o → hb (ρ' d) = some b → cx.ok b ∧ b < w'.heap.size)
    (no : ∀ d o b, getM s'.mem d = some o → hb (ρ' d) = some b → ¬ cx.own b)
    (ds : ∀ d d' o o' b, getM s'.mem d = some o → getM s'.mem d' = some o' → hb (ρ' d) = some b → hb (ρ' d') = some b → d = d')
    (ob : ∀ d o, getM s'.mem d = some o → OR 0 w' (Own cx ρ' s'.mem) ρ' s'.mem d o)
    (pn : ∀ d x o, cx.pin d = some x → getM s'.mem d = some o → ρ' d = x)
    (hfr : ∀ t, s'.fr.get t = .any ∨ (s'.fr.get t = s.fr.get t ∧ ∀ d, (s.fr.get t).has d = true → Keeps s.mem s'.mem ρ ρ' d)) : Sim cx s' a w' ρ' where
  sz := h.sz.trans hn.symm
  df := h.df
  be := h.be.trans be
  fo := fun b hx => Nat.lt_of_lt_of_le (h.fo b hx) be.size
  ge := ge
  no := no
  ds := ds
  ob := ob
  fr := by
    intro t
    rcases hfr t with e | ⟨e, hk⟩
    · rw [e]; trivial
    · rw [e]; exact VR.keep hw be.size ho hk (h.fr t)
  pl := h.pl
  pn := pn
/-- One key turns (or is new); all others are as they were. -/
theorem Sim.upd (h : Sim cx s a w ρ) (d : Nat) (o' : Obj) (hn : s'.n = s.n) (hd : getM s'.mem d = some o') (hne : ∀ e, e ≠ d → getM s'.mem e = getM s.mem e) (hρ : ∀ e, e ≠ d → ρ' e = ρ e)
    (be : Bel cx.ok w w') (hw : ∀ b, b < w.heap.size → (getM s.mem d = none ∨ hb (ρ d) ≠ some b) → w'.heap[b]? = w.heap[b]?)
    (hnew : ∀ b, hb (ρ' d) = some b → (getM s.mem d ≠ none ∧ hb (ρ d) = some b) ∨ (w.heap.size ≤ b ∧ b < w'.heap.size))
    (ob : OR 0 w' (Own cx ρ' s'.mem) ρ' s'.mem d o')
    (hpn : cx.pin d = none ∨ (∃ o, getM s.mem d = some o) ∧ ρ' d = ρ d)
    (hfr : ∀ t, s'.fr.get t = .any ∨ (s'.fr.get t = s.fr.get t ∧ ((s.fr.get t).has d = true → Keeps s.mem s'.mem ρ ρ' d)))
    (hbx : ∀ e v, e ≠ d → getM s.mem e = some (.box v) → v.has d = true → Keeps s.mem s'.mem ρ ρ' d) : Sim cx s' a w' ρ' := by
  have hbase : cx.w0.heap.size ≤ w.heap.size := h.be.size
  have keeps : ∀ e, e ≠ d → Keeps s.mem s'.mem ρ ρ' e := fun e he => Keeps.same (hρ e he) (hne e he)
  have hw' : ∀ b, b < w.heap.size → ¬ Own cx ρ s.mem b → w'.heap[b]? = w.heap[b]? := by
    intro b hlt hno
    refine hw b hlt ?_
    cases hg : getM s.mem d with
    | none => exact .inl rfl
    | some o => exact .inr fun hb' => hno (.inr ⟨d, o, hg, hb'⟩)
  have ho : ∀ b, b < w.heap.size → Own cx ρ' s'.mem b → Own cx ρ s.mem b := by
    rintro b hlt (hx | ⟨e, o, he, hb'⟩)
    · exact .inl hx
    · by_cases hed : e = d
      · subst hed
        rcases hnew b hb' with ⟨hsome, hb2⟩ | ⟨hge, _⟩
        · cases hg : getM s.mem e with
          | none => exact (hsome hg).elim
          | some o2 => exact .inr ⟨e, o2, hg, hb2⟩
        · omega
      · exact .inr ⟨e, o, (hne e hed) ▸ he, (hρ e hed) ▸ hb'⟩
  refine h.step hn be hw' ho ?_ ?_ ?_ ?_ ?_ ?_
  · intro e o b he hb'
    by_cases hed : e = d
    · subst hed
      rcases hnew b hb' with ⟨hsome, hb2⟩ | ⟨hge, hlt⟩
      · cases hg : getM s.mem e with
        | none => exact (hsome hg).elim
        | some o2 => have := h.ge e o2 b hg hb2; exact ⟨this.1, Nat.lt_of_lt_of_le this.2 be.size⟩
      · exact ⟨.inl (by omega), hlt⟩
    · have := h.ge e o b ((hne e hed) ▸ he) ((hρ e hed) ▸ hb')
      exact ⟨this.1, Nat.lt_of_lt_of_le this.2 be.size⟩
  · intro e o b he hb' hx
    by_cases hed : e = d
    · subst hed
      rcases hnew b hb' with ⟨hsome, hb2⟩ | ⟨hge, _⟩
      · cases hg : getM s.mem e with
        | none => exact (hsome hg).elim
        | some o2 => exact h.no e o2 b hg hb2 hx
      · have := h.fo b hx; omega
    · exact h.no e o b ((hne e hed) ▸ he) ((hρ e hed) ▸ hb') hx
  · have one : ∀ e o b, e ≠ d → getM s'.mem e = some o → hb (ρ' e) = some b → hb (ρ' d) = some b → False := by
      intro e o b hed he hb1 hb2
      have he' := (hne e hed) ▸ he
      have hb1' := (hρ e hed) ▸ hb1
      rcases hnew b hb2 with ⟨hsome, hb3⟩ | ⟨hge, _⟩
      · cases hg : getM s.mem d with
        | none => exact hsome hg
        | some o2 => exact hed (h.ds e d o o2 b he' hg hb1' hb3)
      · have := (h.ge e o b he' hb1').2; omega
    intro e e' o o2 b he he' hb1 hb2
    by_cases h1 : e = d
    · by_cases h2 : e' = d
      · rw [h1, h2]
      · subst h1; exact (one e' o2 b h2 he' hb2 hb1).elim
    · by_cases h2 : e' = d
      · subst h2; exact (one e o b h1 he hb1 hb2).elim
      · exact h.ds e e' o o2 b ((hne e h1) ▸ he) ((hne e' h2) ▸ he') ((hρ e h1) ▸ hb1) ((hρ e' h2) ▸ hb2)
  · intro e o he
    by_cases hed : e = d
    · subst hed
      rw [hd] at he
      cases he
      exact ob
    · have he' := (hne e hed) ▸ he
      refine (h.ob e o he').keep (hρ e hed) ?_ hw' be.size ho ?_
      · intro b hb'
        refine hw b (h.ge e o b he' hb').2 ?_
        cases hg : getM s.mem d with
        | none => exact .inl rfl
        | some o2 => exact .inr fun hb2 => hed (h.ds e d o o2 b he' hg hb' hb2)
      · intro v hv k hk
        by_cases hkd : k = d
        · subst hkd; subst hv; exact hbx e v hed he' hk
        · exact keeps k hkd
  · intro e x o hp he
    by_cases hed : e = d
    · subst hed
      rcases hpn with hpn | ⟨⟨o2, ho2⟩, h1⟩
      · rw [hp] at hpn; cases hpn
      · exact h1.trans (h.pn e x o2 hp ho2)
    · exact (hρ e hed).trans (h.pn e x o hp ((hne e hed) ▸ he))
  · intro t
    rcases hfr t with e | ⟨e, hk⟩
    · exact .inl e
    · refine .inr ⟨e, fun k hk' => ?_⟩
      by_cases hkd : k = d
      · subst hkd; exact hk hk'
      · exact keeps k hkd
/-- A slot is laid. -/
theorem Sim.put (h : Sim cx s a w ρ) (dst : Option Nat) {v : V} {x : Value} (hv : VR w (Own cx ρ s.mem) ρ s.mem v x) : Sim cx (s.put dst v) (a.put dst x) w ρ := by
  cases dst with
  | none => exact h
  | some d =>
    refine ⟨by simp [Act.put, St.put, h.sz], h.df, h.be, h.fo, h.ge, h.no, h.ds, h.ob, fun t => ?_, h.pl, h.pn⟩
    show VR w (Own cx ρ s.mem) ρ s.mem ((s.fr.set d (if d < s.n then v else .any)).get t) ((a.tmps.setIfInBounds d x).getD t undef)
    rcases Fr.get_set s.fr d t (if d < s.n then v else .any) with ⟨e, h1 | h1⟩ | ⟨hne, h1⟩
    · rw [h1]
      split
      · rename_i hlt
        subst e
        have : (a.tmps.setIfInBounds t x).getD t undef = x := by
          simp [Array.getD, h.sz, hlt]
        rw [this]
        exact hv
      · trivial
    · rw [h1]; trivial
    · rw [h1]
      have : (a.tmps.setIfInBounds d x).getD t undef = a.tmps.getD t undef := by
        simp only [Array.getD_eq_getD_getElem?, Array.getElem?_setIfInBounds]
        rw [if_neg (fun e => hne e.symm)]
      rw [this]
      exact h.fr t
theorem FR.has {w : World} {own : Nat → Prop} {ρ : Nat → Value} {m : Mem} {d : Nat} : ∀ {v : V} {cs : List Value}, FR w own ρ m v cs → v.has d = true → getM m d ≠ none := by
  intro v
  induction v with
  | pair a b iha ihb =>
    rintro cs ⟨_, _, _, h1, h2⟩ hh
    simp only [V.has, Bool.or_eq_true] at hh
    exact hh.elim (iha h1) (ihb h2)
  | agg a ih => intro cs h hh; exact ih h hh
  | sptr k u ih => rintro cs ⟨_, _, _, _, _, _, h, _⟩ hh; exact ih h hh
  | rs e => rintro cs ⟨_, _, _, _, h⟩ hh; simp [V.has] at hh; subst hh; rw [h]; simp
  | ptr e p => rintro cs ⟨_, _, _, _, h, _⟩ hh; simp [V.has] at hh; subst hh; rw [h]; simp
  | mp e => rintro cs ⟨_, _, _, _, _, _, _, _, h⟩ hh; simp [V.has] at hh; subst hh; rw [h]; simp
  | eptr e i p => rintro cs ⟨_, _, _, _, _, _, h, _⟩ hh; simp [V.has] at hh; subst hh; rw [h]; simp
  | tup a _ => intro cs h; exact h.elim
  | _ => intro cs _ hh; simp [V.has] at hh
theorem V1.has {w : World} {own : Nat → Prop} {ρ : Nat → Value} {m : Mem} {d : Nat} {v : V} {x : Value} (h : V1 w own ρ m v x) (hh : v.has d = true) : getM m d ≠ none := by
  cases v
  case any => simp [V.has] at hh
  case undef => simp [V.has] at hh
  case agg c => obtain ⟨_, _, hf⟩ := h; exact FR.has hf hh
  case arr n t l => simp [V.has] at hh
  all_goals exact FR.has h hh
theorem TR.has {w : World} {own : Nat → Prop} {ρ : Nat → Value} {m : Mem} {d : Nat} : ∀ {v : V} {xs : List Value}, TR w own ρ m v xs → v.has d = true → getM m d ≠ none := by
  intro v
  induction v with
  | pair a b _ ihb =>
    rintro xs ⟨_, _, _, h1, h2⟩ hh
    simp only [V.has, Bool.or_eq_true] at hh
    exact hh.elim h1.has (ihb h2)
  | unit => intro xs _ hh; simp [V.has] at hh
  | _ => intro xs h; exact h.elim
theorem VR.has {w : World} {own : Nat → Prop} {ρ : Nat → Value} {m : Mem} {d : Nat} {v : V} {x : Value} (h : VR w own ρ m v x) (hh : v.has d = true) : getM m d ≠ none := by
  by_cases hn : ∃ c, v = .tup c
  · obtain ⟨c, rfl⟩ := hn
    obtain ⟨_, _, ht⟩ := h
    exact TR.has ht hh
  · have h' : V1 w own ρ m v x := by cases v <;> first | exact (hn ⟨_, rfl⟩).elim | exact h
    exact h'.has hh
/-- A key is made free. -/
theorem Sim.free (h : Sim cx s a w ρ) {d : Nat} (hf : s.free d = some s') : Sim cx s' a w ρ ∧ getM s'.mem d = none ∧ s'.n = s.n ∧
    (∀ t, (s'.fr.get t).has d = false ∧ (s'.fr.get t = .any ∨ s'.fr.get t = s.fr.get t)) ∧ (∀ e v, getM s'.mem e = some (.box v) → v.has d = false) ∧
    (∀ e o, getM s'.mem e = some o → getM s.mem e = some o) := by
  unfold St.free at hf
  cases hg : getM s.mem d with
  | none =>
    rw [hg] at hf
    cases hf
    refine ⟨h, hg, rfl, fun t => ⟨?_, .inr rfl⟩, ?_, fun _ _ h => h⟩
    · cases hh : (s.fr.get t).has d with
      | false => rfl
      | true => exact ((h.fr t).has hh hg).elim
    · intro e v he
      cases hh : v.has d with
      | false => rfl
      | true => obtain ⟨_, _, _, _, _, hf, _⟩ := h.ob e _ he; exact (hf.has hh hg).elim
  | some o =>
    rw [hg] at hf
    simp only at hf
    split at hf
    · cases hf
    · rename_i hbx
      cases hf
      have hbx' : boxesHave d (delM s.mem d) = false := by simpa using hbx
      have hdel := getM_delM s.mem d
      have sub : ∀ e o, getM (delM s.mem d) e = some o → d ≠ e ∧ getM s.mem e = some o := by
        intro e o he
        rw [hdel e] at he
        split at he
        · cases he
        · rename_i hne; exact ⟨hne, he⟩
      have keep : ∀ e, d ≠ e → Keeps s.mem (delM s.mem d) ρ ρ e := fun e he => Keeps.same rfl (by rw [hdel e, if_neg he])
      have gm := Fr.get_map (V.kill d) rfl s.fr
      refine ⟨h.step (s' := { s with fr := s.fr.map (V.kill d), mem := delM s.mem d }) rfl (Bel.refl _ _) (fun _ _ _ => rfl) ?_ ?_ ?_ ?_ ?_ (fun e x o hp he => h.pn e x o hp (sub e o he).2) ?_, by rw [hdel d, if_pos rfl], rfl, fun t => ?_, ?_, fun e o he => (sub e o he).2⟩
      · rintro b _ (hx | ⟨e, o2, he, hb'⟩)
        · exact .inl hx
        · exact .inr ⟨e, o2, (sub e o2 he).2, hb'⟩
      · exact fun e o2 b he hb' => h.ge e o2 b (sub e o2 he).2 hb'
      · exact fun e o2 b he hb' => h.no e o2 b (sub e o2 he).2 hb'
      · exact fun e e' o2 o3 b he he' h1 h2 => h.ds e e' o2 o3 b (sub _ _ he).2 (sub _ _ he').2 h1 h2
      · intro e o2 he
        refine (h.ob e o2 (sub e o2 he).2).keep rfl (fun _ _ => rfl) (fun _ _ _ => rfl) (Nat.le_refl _) ?_ ?_
        · rintro b _ (hx | ⟨e, o2, he, hb'⟩)
          · exact .inl hx
          · exact .inr ⟨e, o2, (sub e o2 he).2, hb'⟩
        · intro v hv k hk
          subst hv
          have := boxesHave_out hbx' he
          exact keep k (fun e => by subst e; rw [this] at hk; cases hk)
      · intro t
        show (s.fr.map (V.kill d)).get t = .any ∨ _
        rw [gm t]
        unfold V.kill
        split
        · exact .inl rfl
        · rename_i hh
          exact .inr ⟨rfl, fun k hk => keep k (fun e => by subst e; exact hh hk)⟩
      · show ((s.fr.map (V.kill d)).get t).has d = false ∧ ((s.fr.map (V.kill d)).get t = .any ∨ _)
        rw [gm t]
        unfold V.kill
        split
        · exact ⟨rfl, .inl rfl⟩
        · rename_i hh
          exact ⟨by simpa using hh, .inr rfl⟩
      · exact fun e v he => boxesHave_out hbx' he
/-! ### a row that is frozen -/
theorem size_frz (d : Nat) (E : TypeId) (t : Ty) (l : List t.den) : ∀ v : V, (v.frz d E t l).size = v.size := by
  intro v
  induction v with
  | pair a b iha ihb => simp [V.frz, V.size, iha, ihb]
  | agg a ih => simp [V.frz, V.size, ih]
  | rs e => simp only [V.frz]; split <;> rfl
  | _ => rfl
theorem nth_frz (d : Nat) (E : TypeId) (t : Ty) (l : List t.den) : ∀ {c : V} {j : Nat} {u : V}, nth c j = some u → nth (c.frz d E t l) j = some (u.frz d E t l) ∧ offN (c.frz d E t l) j = offN c j := by
  intro c
  induction c with
  | pair a b _ ihb =>
    intro j u h
    cases j with
    | zero => simp only [nth] at h; cases h; exact ⟨rfl, rfl⟩
    | succ j =>
      simp only [nth] at h
      obtain ⟨h1, h2⟩ := ihb h
      exact ⟨h1, by simp only [V.frz, offN, h2, size_frz]⟩
  | unit => intro j u h; simp [nth] at h
  | rs e =>
    intro j u h
    cases j with
    | zero => simp only [nth] at h; cases h; simp only [V.frz]; split <;> exact ⟨rfl, rfl⟩
    | succ j => simp [nth] at h
  | _ =>
    intro j u h
    cases j with
    | zero => simp only [nth] at h; cases h; exact ⟨rfl, rfl⟩
    | succ j => simp [nth] at h
theorem path_frz (d : Nat) (E : TypeId) (t : Ty) (l : List t.den) : ∀ (p : List PS) {v : V} {off : Nat}, PathAt p v off → PathAt p (v.frz d E t l) off
  | [], _, _, h => h
  | .fld j :: p, v, off, ⟨c, u, o, e, hn, ho, hp⟩ => by
    subst e
    obtain ⟨h1, h2⟩ := nth_frz d E t l hn
    exact ⟨_, _, o, rfl, h1, by rw [h2, ho], path_frz d E t l p hp⟩
  | .idx i :: p, v, off, ⟨n, s, k, o, e, h⟩ => by
    subst e
    exact ⟨n, s, k, o, rfl, h⟩
theorem FR.frz {w : World} {own own' : Nat → Prop} {ρ : Nat → Value} {m m' : Mem} {d : Nat} {E : TypeId} {t : Ty} {l : List t.den} (ho : ∀ b, b < w.heap.size → own' b → own b)
    (hrow : DR w own' (.sl E t) l [ρ d]) (hk : ∀ e, e ≠ d → Keeps m m' ρ ρ e) : ∀ {v : V} {cs : List Value}, v.hasE d = false → FR w own ρ m v cs → FR w own' ρ m' (v.frz d E t l) cs := by
  intro v
  induction v with
  | pair a b iha ihb =>
    rintro cs hh ⟨c1, c2, e, h1, h2⟩
    simp only [V.hasE, Bool.or_eq_false_iff] at hh
    exact ⟨c1, c2, e, iha hh.1 h1, ihb hh.2 h2⟩
  | agg a ih => intro cs hh h; exact ih hh h
  | rs e =>
    rintro cs _ ⟨e1, h⟩
    simp only [V.frz]
    split
    · rename_i hde
      subst hde
      rw [e1]
      exact hrow
    · rename_i hde
      exact FR.keep (v := .rs e) (fun _ _ _ => rfl) (Nat.le_refl _) ho (fun k hk' => by simp [V.has] at hk'; subst hk'; exact hk k (fun x => hde x.symm)) ⟨e1, h⟩
  | sptr k u ih =>
    rintro cs hh ⟨b, off, us, e, hb, hlt, hu, hc⟩
    exact ⟨b, off, us, e, fun hx => hb (ho b hlt hx), hlt, ih hh hu, hc⟩
  | tup a _ => intro cs _ h; exact h.elim
  | any => intro cs _ h; exact h.elim
  | undef => intro cs _ h; exact h.elim
  | ptr e p =>
    intro cs hh h
    simp [V.hasE] at hh
    exact FR.keep (v := .ptr e p) (fun _ _ _ => rfl) (Nat.le_refl _) ho (fun k hk' => by simp [V.has] at hk'; subst hk'; exact hk k (fun x => hh x.symm)) h
  | eptr e i p =>
    intro cs hh h
    simp [V.hasE] at hh
    exact FR.keep (v := .eptr e i p) (fun _ _ _ => rfl) (Nat.le_refl _) ho (fun k hk' => by simp [V.has] at hk'; subst hk'; exact hk k (fun x => hh x.symm)) h
  | mp e =>
    intro cs hh h
    simp [V.hasE] at hh
    exact FR.keep (v := .mp e) (fun _ _ _ => rfl) (Nat.le_refl _) ho (fun k hk' => by simp [V.has] at hk'; subst hk'; exact hk k (fun x => hh x.symm)) h
  | fn f => intro cs _ h; exact h
  | ifc b => intro cs _ h; exact h
  | dead => intro cs _ h; exact h
  | int k n => intro cs _ h; exact h
  | bool b => intro cs _ h; exact h
  | str b => intro cs _ h; exact h
  | nils => intro cs _ h; exact h
  | nilp => intro cs _ h; exact h
  | unit => intro cs _ h; exact h
  | arr n s k => intro cs _ h; exact DR.keep (t := .arr n s) (fun _ _ _ => rfl) (Nat.le_refl _) ho h
  | sl F s k => intro cs _ h; exact DR.keep (t := .sl F s) (fun _ _ _ => rfl) (Nat.le_refl _) ho h
theorem V1.frz {w : World} {own own' : Nat → Prop} {ρ : Nat → Value} {m m' : Mem} {d : Nat} {E : TypeId} {t : Ty} {l : List t.den} (ho : ∀ b, b < w.heap.size → own' b → own b)
    (hrow : DR w own' (.sl E t) l [ρ d]) (hk : ∀ e, e ≠ d → Keeps m m' ρ ρ e) {v : V} {x : Value} (hh : v.hasE d = false) (h : V1 w own ρ m v x) : V1 w own' ρ m' (v.frz d E t l) x := by
  cases v
  case any => trivial
  case undef => exact h
  case agg c => obtain ⟨cs, e, hf⟩ := h; exact ⟨cs, e, FR.frz ho hrow hk hh hf⟩
  case arr n t l => obtain ⟨cs, e, hf⟩ := h; exact ⟨cs, e, FR.frz ho hrow hk hh hf⟩
  case rs e =>
    have := FR.frz ho hrow hk hh h
    simp only [V.frz] at this ⊢
    split at this <;> rename_i hde <;> simp only [hde, if_true, if_false] <;> exact this
  all_goals exact FR.frz ho hrow hk hh h
theorem TR.frz {w : World} {own own' : Nat → Prop} {ρ : Nat → Value} {m m' : Mem} {d : Nat} {E : TypeId} {t : Ty} {l : List t.den} (ho : ∀ b, b < w.heap.size → own' b → own b)
    (hrow : DR w own' (.sl E t) l [ρ d]) (hk : ∀ e, e ≠ d → Keeps m m' ρ ρ e) : ∀ {v : V} {xs : List Value}, v.hasE d = false → TR w own ρ m v xs → TR w own' ρ m' (v.frz d E t l) xs := by
  intro v
  induction v with
  | pair a b _ ihb =>
    rintro cs hh ⟨y, ys, e, h1, h2⟩
    simp only [V.hasE, Bool.or_eq_false_iff] at hh
    exact ⟨y, ys, e, V1.frz ho hrow hk hh.1 h1, ihb hh.2 h2⟩
  | unit => intro xs _ h; exact h
  | _ => intro xs _ h; exact h.elim
theorem isClo_frz {d : Nat} {E : TypeId} {t : Ty} {l : List t.den} : ∀ c : V, isClo (c.frz d E t l) = isClo c := by
  intro c
  cases c
  case pair a b =>
    cases a
    case undef =>
      cases b
      case pair p q =>
        cases p
        case fn f =>
          cases q
          case pair u v =>
            cases u
            all_goals first | rfl | (simp only [V.frz]; split <;> rfl)
          all_goals first | rfl | (simp only [V.frz]; split <;> rfl)
        all_goals first | rfl | (simp only [V.frz]; split <;> rfl)
      all_goals first | rfl | (simp only [V.frz]; split <;> rfl)
    all_goals first | rfl | (simp only [V.frz]; split <;> rfl)
  all_goals first | rfl | (simp only [V.frz]; split <;> rfl)
theorem VR.frz {w : World} {own own' : Nat → Prop} {ρ : Nat → Value} {m m' : Mem} {d : Nat} {E : TypeId} {t : Ty} {l : List t.den} (ho : ∀ b, b < w.heap.size → own' b → own b)
    (hrow : DR w own' (.sl E t) l [ρ d]) (hk : ∀ e, e ≠ d → Keeps m m' ρ ρ e) {v : V} {x : Value} (hh : v.hasE d = false) (h : VR w own ρ m v x) : VR w own' ρ m' (v.frz d E t l) x := by
  cases v
  case tup c => obtain ⟨xs, e, ht⟩ := h; exact ⟨xs, by rw [e]; unfold tupVal; rw [isClo_frz], TR.frz ho hrow hk hh ht⟩
  case rs e =>
    have := V1.frz (x := x) ho hrow hk hh h
    simp only [V.frz] at this ⊢
    split at this <;> rename_i hde <;> simp only [hde, if_true, if_false] <;> exact this
  all_goals exact V1.frz (x := x) ho hrow hk hh h
theorem Sim.freeze (h : Sim cx s a w ρ) {d : Nat} (hf : s.freeze d = some s') : Sim cx s' a w ρ ∧ s'.n = s.n ∧ getM s'.mem d = none ∧ (∀ e, e ≠ d → (getM s'.mem e).isSome = (getM s.mem e).isSome) ∧
    (∀ e E t l, e ≠ d → getM s.mem e = some (.row E t l) → getM s'.mem e = some (.row E t l)) ∧ (∀ b, Own cx ρ s'.mem b → Own cx ρ s.mem b ∧ ∀ b', hb (ρ d) = some b' → b' ≠ b) := by
  unfold St.freeze at hf
  split at hf
  · rename_i E t l hg
    simp only at hf
    split at hf
    · cases hf
    · rename_i hbx
      have hbx' : boxesHaveE d (delM s.mem d) = false := by simpa using hbx
      cases hf
      have hget : ∀ e, getM (frzM d E t l (delM s.mem d)) e = if d = e then none else (getM s.mem e).map (frzO d E t l) := by
        intro e
        rw [getM_frzM, getM_delM]
        split <;> rfl
      have sub : ∀ e o, getM (frzM d E t l (delM s.mem d)) e = some o → d ≠ e ∧ ∃ o', getM s.mem e = some o' ∧ o = frzO d E t l o' := by
        intro e o he
        rw [hget e] at he
        split at he
        · cases he
        · rename_i hne
          cases ho : getM s.mem e with
          | none => rw [ho] at he; cases he
          | some o' => rw [ho] at he; cases he; exact ⟨hne, o', rfl, rfl⟩
      have ownsub : ∀ b, Own cx ρ (frzM d E t l (delM s.mem d)) b → Own cx ρ s.mem b ∧ ∀ b', hb (ρ d) = some b' → b' ≠ b := by
        rintro b (hx | ⟨e, o, he, hb'⟩)
        · refine ⟨.inl hx, fun b' h1 e => ?_⟩
          subst e
          exact h.no d _ b' hg h1 hx
        · obtain ⟨hne, o', he', _⟩ := sub e o he
          refine ⟨.inr ⟨e, o', he', hb'⟩, fun b' h1 e' => ?_⟩
          subst e'
          exact hne (h.ds d e _ _ b' hg he' h1 hb')
      have keep : ∀ e, e ≠ d → Keeps s.mem (frzM d E t l (delM s.mem d)) ρ ρ e := by
        intro e he
        have hg' := hget e
        rw [if_neg (fun x => he x.symm)] at hg'
        refine ⟨rfl, fun v hv => ⟨v.frz d E t l, by rw [hg', hv]; rfl, fun p off hp => path_frz d E t l p hp⟩, fun E' t' l' hl => ⟨l', by rw [hg', hl]; rfl, rfl⟩, fun K' E' k' t' l' hl => ⟨l', by rw [hg', hl]; rfl⟩⟩
      have hrow : DR w (Own cx ρ (frzM d E t l (delM s.mem d))) (.sl E t) l [ρ d] :=
        dec_sound h.rows (own' := Own cx ρ (frzM d E t l (delM s.mem d))) (fun b hb' => (ownsub b hb').1) (m0 := s.mem) (fun _ _ h => h) (t := .sl E t) (v := .rs d) (by simp [dec, hg])
          ⟨rfl, E, t, l, hg⟩ (fun e he b hb' ho => by simp [rowKeys] at he; subst he; exact (ownsub b ho).2 b hb' rfl)
      refine ⟨⟨h.sz, h.df, h.be, h.fo, ?_, ?_, ?_, ?_, ?_, h.pl, ?_⟩, rfl, by rw [hget d, if_pos rfl], ?_, ?_, ownsub⟩
      · intro e o b he hb'
        obtain ⟨_, o', he', _⟩ := sub e o he
        exact h.ge e o' b he' hb'
      · intro e o b he hb'
        obtain ⟨_, o', he', _⟩ := sub e o he
        exact h.no e o' b he' hb'
      · intro e e' o o2 b he he' h1 h2
        obtain ⟨_, o', h3, _⟩ := sub e o he
        obtain ⟨_, o2', h4, _⟩ := sub e' o2 he'
        exact h.ds e e' o' o2' b h3 h4 h1 h2
      · intro e o he
        obtain ⟨hne, o', he', ho'⟩ := sub e o he
        have hor := h.ob e o' he'
        cases o' with
        | box v =>
          obtain ⟨b, cs, T, h1, h2, h3, hT⟩ := hor
          subst ho'
          have hE : v.hasE d = false := boxesHaveE_out hbx' (by rw [getM_delM, if_neg hne]; exact he')
          exact ⟨b, cs, T, h1, h2, h3.frz (fun b _ hb' => (ownsub b hb').1) hrow keep hE, fun U hU => hT U (by rw [← hU]; exact (tag_frz d E t l v).symm)⟩
        | row E' t' l' =>
          subst ho'
          exact OR.keep hor rfl (fun _ _ => rfl) (fun _ _ _ => rfl) (Nat.le_refl _) (fun b _ hb' => (ownsub b hb').1) (fun v hv => by cases hv) (m' := frzM d E t l (delM s.mem d))
        | map K' E' k' t' l' =>
          subst ho'
          exact OR.keep hor rfl (fun _ _ => rfl) (fun _ _ _ => rfl) (Nat.le_refl _) (fun b _ hb' => (ownsub b hb').1) (fun v hv => by cases hv) (m' := frzM d E t l (delM s.mem d))
      · intro k
        show VR _ _ _ _ ((s.fr.map fun v => if v.hasE d then .any else v.frz d E t l).get k) _
        rw [Fr.get_map _ rfl]
        split
        · trivial
        · rename_i hE
          exact (h.fr k).frz (fun b _ hb' => (ownsub b hb').1) hrow keep (by simpa using hE)
      · intro e x o hp he
        obtain ⟨_, o', he', _⟩ := sub e o he
        exact h.pn e x o' hp he'
      · intro e he
        show (getM (frzM d E t l (delM s.mem d)) e).isSome = _
        rw [hget e, if_neg (fun x => he x.symm)]
        cases getM s.mem e <;> rfl
      · intro e E' t' l' he hl
        show getM (frzM d E t l (delM s.mem d)) e = _
        rw [hget e, if_neg (fun x => he x.symm), hl]
        rfl
  · cases hf
end
end Go.Rf
