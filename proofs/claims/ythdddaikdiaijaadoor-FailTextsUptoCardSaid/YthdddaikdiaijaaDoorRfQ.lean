/- A whole function: its entry, and that it is right. -/
import Derived.Test.YthdddaikdiaijaaDoorRfO
import Derived.Test.YthdddaikdiaijaaDoorRfP
namespace Go.Rf
open Go.RowKit (Below)
/-- A function: its number and text, its parameters' and results' types, the regions at which it is cut, the states at the cuts. -/
structure Cfg where
  id : FuncId
  fn : Func
  ps : List Ty
  rt : List Ty
  depth : Nat
  cuts : List Nat
  shapes : List (Nat × Shape)
def findS : List (Nat × Shape) → Nat → Shape
  | [], _ => ⟨0, 0, [], []⟩
  | (j, h) :: r, i => if j = i then h else findS r i
def steps : Nat := 4000
def hasS (l : List (Nat × Shape)) (i : Nat) : Bool := l.any fun x => x.1 == i
/-- The shapes of one cut, one behind the other: the first that the state has. -/
def jVar (l : List (Nat × Shape)) {R : Type} (L : (j : Nat) → slotsDen (findS l j).slots → memDen (findS l j).mem → Option R) (s : St) : Nat → Nat → Option R
  | 0, _ => none
  | n + 1, j => match hasS l j with
    | true => match decSt 1000 (findS l j) s (fun x y => some (x, y)) with
      | some p => L j p.1 p.2
      | none => jVar l L s n (j + 1000000)
    | false => none
def JJ (l : List (Nat × Shape)) {R : Type} (L : (j : Nat) → slotsDen (findS l j).slots → memDen (findS l j).mem → Option R) (i : Nat) (s : St) : Option R :=
  match decide (i < 1000000) with
  | true => jVar l L s 6 i
  | false => none
/-- The functions from the cuts on, with so many rounds. -/
noncomputable def LLg (P : Program) (C : Tab) (fn : Func) (cuts : List Nat) (l : List (Nat × Shape)) {R : Type} (out : List V → Mem → Option R) : Nat → (j : Nat) → slotsDen (findS l j).slots → memDen (findS l j).mem → Option R
  | 0, _, _, _ => none
  | n + 1, j, x, y => interp out (JJ l (LLg P C fn cuts l out n)) (run P C fn.results.toList cuts true steps (tds (bodyOf fn) (j % 1000000)) (encSt (findS l j) x y))
def Cfg.sh (c : Cfg) (i : Nat) : Shape := findS c.shapes i
noncomputable def Cfg.LL (P : Program) (C : Tab) (c : Cfg) (n : Nat) (i : Nat) (x : slotsDen (c.sh i).slots) (y : memDen (c.sh i).mem) : Option (dens c.rt) :=
  LLg P C c.fn c.cuts c.shapes (fun vs m => decs m c.rt vs) n i x y
noncomputable def Cfg.f (P : Program) (C : Tab) (c : Cfg) (n : Nat) (y : dens c.ps) : Option (dens c.rt) :=
  interp (fun vs m => decs m c.rt vs) (JJ c.shapes (LLg P C c.fn c.cuts c.shapes (fun vs m => decs m c.rt vs) n)) (run P C c.fn.results.toList c.cuts false steps [.code (bodyOf c.fn)] (start c.fn.ntmps c.depth (encs c.ps y)))
noncomputable def Cfg.entry (P : Program) (C : Tab) (c : Cfg) (n : Nat) : Entry := ⟨c.id, c.ps, c.rt, c.f P C n⟩
def shapesOK (fn : Func) (l : List (Nat × Shape)) : Bool := l.all fun x => x.2.ok && decide ((occC (x.1 % 1000000) (bodyOf fn) []).length ≤ 1)
/-- What is asked of a function's text: all of it is looked up. -/
def Cfg.ok (c : Cfg) : Bool :=
  shapesOK c.fn c.shapes && decide (c.ps.length ≤ c.fn.ntmps) && c.fn.body.isSome && decide (0 < c.fn.ntmps)
/-! ### functions that are handed objects -/
def resSt (n depth : Nat) (vs : List V) (m : Mem) : St := { start n depth vs with mem := m }
/-- The first shape that the results have. -/
def outOf : (hs : List Shape) → List V → Mem → Option (OutD hs)
  | [], _, _ => none
  | [h], vs, m => match decide (vs.length = h.n) with
    | true => decSt 1000 h (resSt h.n h.depth vs m) (fun x y => some (x, y))
    | false => none
  | h :: g :: r, vs, m => match decide (vs.length = h.n) with
    | true => match decSt 1000 h (resSt h.n h.depth vs m) (fun x y => some (x, y)) with
      | some p => some (.inl p)
      | none => (outOf (g :: r) vs m).map .inr
    | false => none
structure OCfg where
  id : FuncId
  fn : Func
  inp : Shape
  outs : List Shape
  cuts : List Nat
  shapes : List (Nat × Shape)
noncomputable def OCfg.LL (P : Program) (C : Tab) (c : OCfg) (n : Nat) (i : Nat) (x : slotsDen (findS c.shapes i).slots) (y : memDen (findS c.shapes i).mem) : Option (OutD c.outs) :=
  LLg P C c.fn c.cuts c.shapes (outOf c.outs) n i x y
noncomputable def OCfg.f (P : Program) (C : Tab) (c : OCfg) (n : Nat) (x : slotsDen c.inp.slots) (y : memDen c.inp.mem) : Option (OutD c.outs) :=
  interp (outOf c.outs) (JJ c.shapes (LLg P C c.fn c.cuts c.shapes (outOf c.outs) n)) (run P C c.fn.results.toList c.cuts false steps [.code (bodyOf c.fn)] (encSt c.inp x y))
noncomputable def OCfg.entry (P : Program) (C : Tab) (c : OCfg) (n : Nat) : OE := ⟨c.id, c.inp, c.outs, c.f P C n, []⟩
def OCfg.ok (c : OCfg) : Bool :=
  shapesOK c.fn c.shapes && (c.inp.ok && c.inp.mem.all fun x => x.2.isRow || decide (x.1 < 1000)) && c.outs.all Shape.ok && decide (c.inp.n = c.fn.ntmps) && c.fn.body.isSome && decide (0 < c.fn.ntmps)
section
variable {P : Program} {C : Tab} {s : St} {w : World} {ρ : Nat → Value} {i : Nat}
theorem findS_out : ∀ {l : List (Nat × Shape)} {i : Nat}, (findS l i = ⟨0, 0, [], []⟩) ∨ (i, findS l i) ∈ l
  | [], _ => .inl rfl
  | (j, h) :: r, i => by
    simp only [findS]
    split
    · rename_i e; subst e; exact .inr (by simp)
    · rcases findS_out (l := r) (i := i) with h1 | h1
      · exact .inl h1
      · exact .inr (by simp [h1])
theorem occ_in (j : Nat) : ∀ {c : Code} {k t : List Item} {i : Nat}, t ∈ occC i c k → ∀ u ∈ occ j t, u ∈ occC j c k ++ occ j k := by
  intro c
  induction c with
  | seq p q ihp ihq =>
    intro k t i ht u hu
    simp only [occC, List.mem_append] at ht ⊢
    rcases ht with ht | ht
    · have := ihp ht u hu
      simp only [occ, List.mem_append] at this
      rcases this with h | h | h
      · exact .inl (.inl h)
      · exact .inl (.inr h)
      · exact .inr h
    · have := ihq ht u hu
      simp only [List.mem_append] at this
      rcases this with h | h
      · exact .inl (.inr h)
      · exact .inr h
  | cond x p q ihp ihq =>
    intro k t i ht u hu
    simp only [occC, List.mem_append] at ht ⊢
    rcases ht with ht | ht
    · have := ihp ht u hu
      simp only [List.mem_append] at this
      rcases this with h | h
      · exact .inl (.inl h)
      · exact .inr h
    · have := ihq ht u hu
      simp only [List.mem_append] at this
      rcases this with h | h
      · exact .inl (.inr h)
      · exact .inr h
  | block id p ih =>
    intro k t i ht u hu
    simp only [occC] at ht ⊢
    have := ih ht u hu
    simpa [occ] using this
  | loop p ih =>
    intro k t i ht u hu
    simp only [occC, List.mem_append] at ht ⊢
    rcases ht with ht | ht
    · split at ht
      · simp at ht
        subst ht
        simp only [occ, List.mem_append] at hu
        exact hu
      · cases ht
    · have := ih ht u hu
      simp only [occ, List.mem_append] at this
      rcases this with h | (h | h) | h
      · exact .inl (.inr h)
      · exact .inl (.inl h)
      · exact .inl (.inr h)
      · exact .inr h
  | region id ops d =>
    intro k t i ht u hu
    simp only [occC] at ht
    split at ht
    · simp at ht
      subst ht
      simpa [occ] using hu
    · cases ht
  | _ => intro k t i ht; simp [occC] at ht
theorem RR.len {own : Nat → Prop} : ∀ {ts : List Ty} {y : dens ts} {xs : List Value}, RR w own ts y xs → xs.length = ts.length
  | [], _, xs, h => by
    have : xs = [] := h
    rw [this]; rfl
  | [_], _, _, ⟨_, e, _⟩ => by rw [e]; rfl
  | _ :: u :: ts, _, _, ⟨_, _, e, _, h⟩ => by rw [e, List.length_cons, RR.len h]; rfl
/-- The arguments in their slots. -/
theorem args_in {own : Nat → Prop} {tm : Array Value} : ∀ {ts : List Ty} {y : dens ts} {xs : List Value} {k : Nat} {f : Fr}, RR w own ts y xs → (∀ j, j < xs.length → tm.getD (k + j) undef = xs.getD j undef) →
    (∀ t, VR w own ρ [] (f.get t) (tm.getD t undef)) → ∀ t, VR w own ρ [] ((((encs ts y).zipIdx k).foldl (fun f x => f.set x.2 x.1) f).get t) (tm.getD t undef)
  | [], _, _, _, f, _, _, hf => by simpa [encs] using hf
  | [t], y, xs, k, f, ⟨x, e, h⟩, hx, hf => by
    subst e
    intro u
    simp only [encs, List.zipIdx_cons, List.zipIdx_nil, List.foldl_cons, List.foldl_nil]
    rcases Fr.get_set f k u (enc t y) with ⟨e, h1 | h1⟩ | ⟨_, h1⟩
    · rw [h1, e]
      have := hx 0 (by simp)
      simp at this
      rw [show tm.getD k undef = x from by simpa using this]
      exact VR.of_V1 h.enc (enc_notup t y)
    · rw [h1]; trivial
    · rw [h1]; exact hf u
  | t :: v :: ts, y, xs, k, f, ⟨x, rest, e, h, h2⟩, hx, hf => by
    subst e
    simp only [encs, List.zipIdx_cons, List.foldl_cons]
    have hf2 : ∀ u, VR w own ρ [] ((f.set k (enc t y.1)).get u) (tm.getD u undef) := by
      intro u
      rcases Fr.get_set f k u (enc t y.1) with ⟨e, h1 | h1⟩ | ⟨_, h1⟩
      · rw [h1, e]
        have := hx 0 (by simp)
        simp at this
        rw [show tm.getD k undef = x from by simpa using this]
        exact VR.of_V1 h.enc (enc_notup t y.1)
      · rw [h1]; trivial
      · rw [h1]; exact hf u
    have := args_in (ts := v :: ts) (k := k + 1) h2 (fun j hj => by
      have := hx (j + 1) (by simp; omega)
      simp at this
      rw [show k + 1 + j = k + (j + 1) from by omega]
      simpa using this) hf2
    exact this
theorem findS_mem {i : Nat} : ∀ l : List (Nat × Shape), hasS l i = true → (i, findS l i) ∈ l := by
  intro l
  induction l with
  | nil => intro h; cases h
  | cons p l ih =>
    obtain ⟨j, g⟩ := p
    intro h
    simp only [findS]
    split
    · rename_i e; subst e; simp
    · rename_i e
      unfold hasS at h
      simp only [List.any_cons, Bool.or_eq_true, beq_iff_eq] at h
      rcases h with h | h
      · exact (e h).elim
      · exact List.mem_cons_of_mem _ (ih h)
theorem jVar_out {l : List (Nat × Shape)} {R : Type} {L : (j : Nat) → slotsDen (findS l j).slots → memDen (findS l j).mem → Option R} {z : R} (hi : i < 1000000) : ∀ (n j : Nat), j % 1000000 = i → jVar l L s n j = some z →
    ∃ j p, j % 1000000 = i ∧ hasS l j = true ∧ decSt 1000 (findS l j) s (fun x y => some (x, y)) = some p ∧ L j p.1 p.2 = some z
  | 0, _, _, h => by cases h
  | n + 1, j, hj, h => by
    simp only [jVar] at h
    split at h
    · rename_i hh
      split at h
      · rename_i p hp; exact ⟨j, p, hj, hh, hp, h⟩
      · exact jVar_out hi n _ (by omega) h
    · cases h
/-- All that is run from cuts on. -/
theorem all_sound {W0 : World} {cx : Cx} (hC : TabAt P W0 cx C) {f : FuncId} {fn : Func} {cuts : List Nat} {l : List (Nat × Shape)} {R : Type} {out : List V → Mem → Option R} (hf : P.funcs[f]? = some fn) (hok : shapesOK fn l = true)
    {z : R} {Pst : Value → World → Prop} (hE : EndOK cx out z Pst) (n : Nat) {s : St} {a : Act} {w : World} {ρ : Nat → Value} (hs : Sim cx s a w ρ)
    (hr : interp out (JJ l (LLg P C fn cuts l out n)) (run P C fn.results.toList cuts false steps [.code (bodyOf fn)] s) = some z) : Goes P f [.code (bodyOf fn)] a w Pst := by
  unfold shapesOK at hok
  simp only [Bool.and_eq_true, List.all_eq_true, decide_eq_true_eq] at hok
  have jump : ∀ {L : (j : Nat) → slotsDen (findS l j).slots → memDen (findS l j).mem → Option R} {i : Nat} {s : St}, JJ l L i s = some z →
      ∃ j p, j % 1000000 = i ∧ (findS l j).ok = true ∧ (occC i (bodyOf fn) []).length ≤ 1 ∧ decSt 1000 (findS l j) s (fun x y => some (x, y)) = some p ∧ L j p.1 p.2 = some z := by
    intro L i s h
    unfold JJ at h
    split at h
    · rename_i hi
      have hi := of_decide_eq_true hi
      obtain ⟨j, p, h1, h2, h3, h4⟩ := jVar_out hi 6 i (by omega) h
      have h5 := hok _ (findS_mem l h2)
      refine ⟨j, p, h1, h5.1, ?_, h3, h4⟩
      have := h5.2
      rw [h1] at this
      exact this
    · cases h
  have only : ∀ {i : Nat}, (occC i (bodyOf fn) []).length ≤ 1 → ∀ t ∈ occC i (bodyOf fn) [], t = tds (bodyOf fn) i := by
    intro i hl t ht
    unfold tds
    match h : occC i (bodyOf fn) [], hl, ht with
    | [u], _, ht => simp at ht; simp [ht]
  have inside : ∀ i j t, t ∈ occ j (tds (bodyOf fn) i) → t ∈ occC j (bodyOf fn) [] := by
    intro i j t ht
    unfold tds at ht
    cases h : occC i (bodyOf fn) [] with
    | nil => rw [h] at ht; simp [occ] at ht
    | cons u us =>
      rw [h] at ht
      have hu : u ∈ occC i (bodyOf fn) [] := by rw [h]; simp
      have := occ_in j hu t ht
      simpa [occ] using this
  have cutsOK : ∀ m j x y (a : Act) (w : World) (ρ : Nat → Value), LLg P C fn cuts l out m j x y = some z → Sim cx (encSt (findS l j) x y) a w ρ → Goes P f (tds (bodyOf fn) (j % 1000000)) a w Pst := by
    intro m
    induction m with
    | zero => intro j x y a w ρ h _; simp only [LLg] at h; cases h
    | succ m ih =>
      intro j x y a w ρ h hs
      simp only [LLg] at h
      refine run_sound hC hE (td := tds (bodyOf fn)) hf ?_ steps true _ hs ?_ h
      · intro i s a w ρ hs hj
        obtain ⟨j', p, h1, h2, _, h3, h4⟩ := jump hj
        obtain ⟨x', y', hL, hs'⟩ := decSt_sound hs hs.lo h2 h3
        cases hL
        have := ih j' x' y' a w _ h4 hs'
        rw [h1] at this
        exact this
      · intro i s hj t ht
        obtain ⟨_, _, _, _, h2, _, _⟩ := jump hj
        exact only h2 t (inside _ i t ht)
  refine run_sound hC hE (td := tds (bodyOf fn)) hf (fun i s a w ρ hs hj => ?_) steps false [.code (bodyOf fn)] hs (fun i s hj t ht => ?_) hr
  · obtain ⟨j', p, h1, h2, _, h3, h4⟩ := jump hj
    obtain ⟨x', y', hL, hs'⟩ := decSt_sound hs hs.lo h2 h3
    cases hL
    have := cutsOK n j' x' y' a w _ h4 hs'
    rw [h1] at this
    exact this
  · obtain ⟨_, _, _, _, h2, _, _⟩ := jump hj
    exact only h2 t (by simpa [occ] using ht)
theorem enters {f : FuncId} {fn : Func} {xs : List Value} {R : Value → World → Prop} {n : Nat} (hf : P.funcs[f]? = some fn) (hname : (fn.name == "runtime.NumGoroutine") = false) (hbody : fn.body.isSome = true) (hn : n = fn.ntmps)
    (hgo : Goes P f [.code (bodyOf fn)] (actOf n xs) w R) : Does P f xs w R := by
  obtain ⟨body, hb⟩ := Option.isSome_iff_exists.1 hbody
  have hbo : bodyOf fn = body := by unfold bodyOf; rw [hb]; rfl
  refine .inl ⟨?_, ?_⟩
  · unfold callFunc
    simp only [Sem.run_bind, run_program, Result.andThen_ok]
    rw [hf]
    simp only [hname, hb]
    rfl
  · intro cs
    let b : Frame := { (default : Frame) with fn := f, kind := .normal }
    obtain ⟨v, w', fr, hR, hst, hfn, hl⟩ := hgo b cs rfl rfl
    have henter : Frame.enter P f xs.toArray .normal = b.at (actOf n xs) [.code (bodyOf fn)] := by
      subst hn
      simp [Frame.enter, Frame.at, hf, hb, b, hbo, actOf]
    refine ⟨.returned v, w', fr, ⟨v, rfl, hR⟩, ?_, hfn, hl⟩
    show Steps P _ _
    rw [henter]
    exact hst
theorem Cfg.sound {W0 : World} (hC : TableOK P W0 C) (c : Cfg) (n : Nat) (hf : P.funcs[c.id]? = some c.fn) (hname : (c.fn.name == "runtime.NumGoroutine") = false) (hok : c.ok = true) : FnOK P W0 (c.entry P C n) := by
  unfold Cfg.ok at hok
  simp only [Bool.and_eq_true, decide_eq_true_eq] at hok
  obtain ⟨⟨⟨hsh, hps⟩, hbody⟩, _⟩ := hok
  intro own w y z xs hfy hbelow hown hargs
  have hlen : xs.length ≤ c.fn.ntmps := by rw [hargs.len]; exact hps
  have hsim : Sim ⟨own, w, fun _ => False, fun _ => none, fun _ => none⟩ (start c.fn.ntmps c.depth (encs c.ps y)) (actOf c.fn.ntmps xs) w (fun _ => undef) := by
    refine ⟨?_, rfl, Bel.refl _ _, hown, fun d o b h => (by cases h), fun d o b h => (by cases h), fun d d' o o' b h => (by cases h), fun d o h => (by cases h), ?_, fun d x h => (by cases h), fun d x o h => (by cases h)⟩
    · rw [(act_of hlen).1]; rfl
    · have hargs2 : RR w (Own ⟨own, w, fun _ => False, fun _ => none, fun _ => none⟩ (fun _ => undef) []) c.ps y xs := by
        have : Own ⟨own, w, fun _ => False, fun _ => none, fun _ => none⟩ (fun _ => undef) [] = own := by
          funext b
          simp [Own, getM]
        rw [this]
        exact hargs
      refine args_in (k := 0) hargs2 ?_ ?_
      · intro j hj
        rw [Nat.zero_add]
        exact (act_of hlen).2 j hj
      · intro t
        rw [Fr.get_mk]
        trivial
  refine (enters hf hname hbody rfl (all_sound (cx := ⟨own, w, fun _ => False, fun _ => none, fun _ => none⟩) ⟨hC, hbelow, fun _ h => h.elim⟩ hf hsh end_data n hsim hfy)).mono ?_
  rintro v w' ⟨ys, h1, h2, h3⟩
  exact ⟨ys, h1, ⟨h2.os, h2.tape, h2.output, h2.size, fun k hk => h2.block k hk fun x => x.elim (fun h => absurd hk (Nat.not_lt.2 h)) (fun h => h)⟩, h3⟩
theorem end_objs {cx : Cx} (hkp : ∀ d u, cx.keep d ≠ some u) : ∀ {hs : List Shape} {z : OutD hs}, hs.all Shape.ok = true → EndOK cx (outOf hs) z (Ends cx hs z) := by
  have one : ∀ {h : Shape} {x : slotsDen h.slots} {y : memDen h.mem} {s : St} {a : Act} {w : World} {ρ : Nat → Value} {vx : List (V × Value)}, h.ok = true → Sim cx s a w ρ → (∀ p ∈ vx, VR w (Own cx ρ s.mem) ρ s.mem p.1 p.2) →
      (vx.map (·.1)).length = h.n → decSt 1000 h (resSt h.n h.depth (vx.map (·.1)) s.mem) (fun x y => some (x, y)) = some (x, y) → End1 cx h x y (wrapVal (vx.map (·.2))) w := by
    intro h x y s a w ρ vx hok hs hv hlen hd
    have hlen2 : vx.length = h.n := by simpa using hlen
    have hQ : Sim cx (resSt h.n h.depth (vx.map (·.1)) s.mem) { tmps := (vx.map (·.2)).toArray, defers := [] } w ρ := by
      refine hs.refr rfl (by simp [resSt, start, hlen2]) rfl ?_
      refine args_fr (k := 0) hv ?_ ?_
      · intro j hj
        simp [List.getD, hj]
      · intro t
        rw [Fr.get_mk]
        trivial
    obtain ⟨x', y', h1, h2⟩ := decSt_sound hQ hQ.lo hok hd
    cases h1
    exact ⟨_, _, rfl, by simpa using hlen2, h2, fun d u hd => (hkp d u hd).elim⟩
  intro hs
  induction hs with
  | nil => intro z; cases z
  | cons h r ih =>
    intro z hok s a w ρ vx hsim hv ho
    simp only [List.all_cons, Bool.and_eq_true] at hok
    cases r with
    | nil =>
      simp only [outOf] at ho
      split at ho
      · rename_i hl
        exact one hok.1 hsim hv (of_decide_eq_true hl) ho
      · cases ho
    | cons g r =>
      simp only [outOf] at ho
      split at ho
      · rename_i hl
        split at ho
        · rename_i p hp
          cases ho
          exact one hok.1 hsim hv (of_decide_eq_true hl) hp
        · obtain ⟨q, h1, h2⟩ := Option.map_eq_some_iff.1 ho
          subst h2
          exact ih hok.2 s a w ρ vx hsim hv h1
      · cases ho
theorem OCfg.sound {W0 : World} (hC : TableOK P W0 C) (c : OCfg) (n : Nat) (hf : P.funcs[c.id]? = some c.fn) (hname : (c.fn.name == "runtime.NumGoroutine") = false) (hok : c.ok = true) : OOK P W0 (c.entry P C n) := by
  unfold OCfg.ok at hok
  simp only [Bool.and_eq_true, decide_eq_true_eq] at hok
  obtain ⟨⟨⟨⟨⟨hsh, hinp⟩, houts⟩, hn⟩, hbody⟩, _⟩ := hok
  refine ⟨by unfold OE.ok; simp only [Bool.and_eq_true]; exact hinp, ?_⟩
  intro cx w x y z xs ρ hfy _ hbase hkp _ hsim
  exact enters hf hname hbody hn (all_sound ⟨hC, hbase⟩ hf hsh (end_objs (fun d u hd => by have := (hkp d u hd).1; cases this) houts) n hsim hfy)
end
end Go.Rf
