/- A whole function: its entry, and that it is right. -/
import Derived.Test.YtapackaajegjnaaRfP
namespace Go.Rf
open Go.RowKit (Below)
/-- A function: its number and text, its parameters' and results' types, the regions at which it is cut, the states at the cuts. -/
structure Cfg where
  id : FuncId
  fn : Func
  ps : List Ty
  rt : List Ty
  depth : Nat
  cuts : List Nat
  shapes : List (Nat × Shape)
def findS : List (Nat × Shape) → Nat → Shape
  | [], _ => ⟨0, 0, [], []⟩
  | (j, h) :: r, i => if j = i then h else findS r i
def Cfg.sh (c : Cfg) (i : Nat) : Shape := findS c.shapes i
def steps : Nat := 4000
def Cfg.has (c : Cfg) (i : Nat) : Bool := c.shapes.any fun x => x.1 == i
def Cfg.J (c : Cfg) {R : Type} (L : (i : Nat) → slotsDen (c.sh i).slots → memDen (c.sh i).mem → Option R) (i : Nat) (s : St) : Option R :=
  match c.has i with
  | true => decSt (c.sh i) s (L i)
  | false => none
/-- The functions from the cuts on, with so many rounds. -/
noncomputable def Cfg.LL (P : Program) (C : List Entry) (c : Cfg) : Nat → (i : Nat) → slotsDen (c.sh i).slots → memDen (c.sh i).mem → Option (dens c.rt)
  | 0, _, _, _ => none
  | n + 1, i, x, y => interp (fun vs m => decs m c.rt vs) (c.J (c.LL P C n)) (run P C c.fn.results.toList c.cuts true steps (tds (bodyOf c.fn) i) (encSt (c.sh i) x y))
noncomputable def Cfg.f (P : Program) (C : List Entry) (c : Cfg) (n : Nat) (y : dens c.ps) : Option (dens c.rt) :=
  interp (fun vs m => decs m c.rt vs) (c.J (c.LL P C n)) (run P C c.fn.results.toList c.cuts false steps [.code (bodyOf c.fn)] (start c.fn.ntmps c.depth (encs c.ps y)))
noncomputable def Cfg.entry (P : Program) (C : List Entry) (c : Cfg) (n : Nat) : Entry := ⟨c.id, c.ps, c.rt, c.f P C n⟩
/-- What is asked of a function's text: all of it is looked up. -/
def Cfg.ok (c : Cfg) : Bool :=
  (c.shapes.all fun x => x.2.ok && decide ((occC x.1 (bodyOf c.fn) []).length ≤ 1)) && decide (c.ps.length ≤ c.fn.ntmps) && c.fn.body.isSome && decide (0 < c.fn.ntmps)
section
variable {P : Program} {C : List Entry} {cx : Cx} {s s' s1 : St} {a : Act} {w w' : World} {ρ ρ' : Nat → Value}
theorem findS_out : ∀ {l : List (Nat × Shape)} {i : Nat}, (findS l i = ⟨0, 0, [], []⟩) ∨ (i, findS l i) ∈ l
  | [], _ => .inl rfl
  | (j, h) :: r, i => by
    simp only [findS]
    split
    · rename_i e; subst e; exact .inr (by simp)
    · rcases findS_out (l := r) (i := i) with h1 | h1
      · exact .inl h1
      · exact .inr (by simp [h1])
theorem occ_in (j : Nat) : ∀ {c : Code} {k t : List Item} {i : Nat}, t ∈ occC i c k → ∀ u ∈ occ j t, u ∈ occC j c k ++ occ j k := by
  intro c
  induction c with
  | seq p q ihp ihq =>
    intro k t i ht u hu
    simp only [occC, List.mem_append] at ht ⊢
    rcases ht with ht | ht
    · have := ihp ht u hu
      simp only [occ, List.mem_append] at this
      rcases this with h | h | h
      · exact .inl (.inl h)
      · exact .inl (.inr h)
      · exact .inr h
    · have := ihq ht u hu
      simp only [List.mem_append] at this
      rcases this with h | h
      · exact .inl (.inr h)
      · exact .inr h
  | cond x p q ihp ihq =>
    intro k t i ht u hu
    simp only [occC, List.mem_append] at ht ⊢
    rcases ht with ht | ht
    · have := ihp ht u hu
      simp only [List.mem_append] at this
      rcases this with h | h
      · exact .inl (.inl h)
      · exact .inr h
    · have := ihq ht u hu
      simp only [List.mem_append] at this
      rcases this with h | h
      · exact .inl (.inr h)
      · exact .inr h
  | block id p ih =>
    intro k t i ht u hu
    simp only [occC] at ht ⊢
    have := ih ht u hu
    simpa [occ] using this
  | loop p ih =>
    intro k t i ht u hu
    simp only [occC, List.mem_append] at ht ⊢
    rcases ht with ht | ht
    · split at ht
      · simp at ht
        subst ht
        simp only [occ, List.mem_append] at hu
        exact hu
      · cases ht
    · have := ih ht u hu
      simp only [occ, List.mem_append] at this
      rcases this with h | (h | h) | h
      · exact .inl (.inr h)
      · exact .inl (.inl h)
      · exact .inl (.inr h)
      · exact .inr h
  | region id ops d =>
    intro k t i ht u hu
    simp only [occC] at ht
    split at ht
    · simp at ht
      subst ht
      simpa [occ] using hu
    · cases ht
  | _ => intro k t i ht; simp [occC] at ht
theorem RR.len {own : Nat → Prop} : ∀ {ts : List Ty} {y : dens ts} {xs : List Value}, RR w own ts y xs → xs.length = ts.length
  | [], _, xs, h => by
    have : xs = [] := h
    rw [this]; rfl
  | [_], _, _, ⟨_, e, _⟩ => by rw [e]; rfl
  | _ :: u :: ts, _, _, ⟨_, _, e, _, h⟩ => by rw [e, List.length_cons, RR.len h]; rfl
/-- The arguments in their slots. -/
theorem args_in {own : Nat → Prop} {tm : Array Value} : ∀ {ts : List Ty} {y : dens ts} {xs : List Value} {k : Nat} {f : Fr}, RR w own ts y xs → (∀ j, j < xs.length → tm.getD (k + j) undef = xs.getD j undef) →
    (∀ t, VR w own ρ [] (f.get t) (tm.getD t undef)) → ∀ t, VR w own ρ [] ((((encs ts y).zipIdx k).foldl (fun f x => f.set x.2 x.1) f).get t) (tm.getD t undef)
  | [], _, _, _, f, _, _, hf => by simpa [encs] using hf
  | [t], y, xs, k, f, ⟨x, e, h⟩, hx, hf => by
    subst e
    intro u
    simp only [encs, List.zipIdx_cons, List.zipIdx_nil, List.foldl_cons, List.foldl_nil]
    rcases Fr.get_set f k u (enc t y) with ⟨e, h1 | h1⟩ | ⟨_, h1⟩
    · rw [h1, e]
      have := hx 0 (by simp)
      simp at this
      rw [show tm.getD k undef = x from by simpa using this]
      exact VR.of_V1 h.enc (enc_notup t y)
    · rw [h1]; trivial
    · rw [h1]; exact hf u
  | t :: v :: ts, y, xs, k, f, ⟨x, rest, e, h, h2⟩, hx, hf => by
    subst e
    simp only [encs, List.zipIdx_cons, List.foldl_cons]
    have hf2 : ∀ u, VR w own ρ [] ((f.set k (enc t y.1)).get u) (tm.getD u undef) := by
      intro u
      rcases Fr.get_set f k u (enc t y.1) with ⟨e, h1 | h1⟩ | ⟨_, h1⟩
      · rw [h1, e]
        have := hx 0 (by simp)
        simp at this
        rw [show tm.getD k undef = x from by simpa using this]
        exact VR.of_V1 h.enc (enc_notup t y.1)
      · rw [h1]; trivial
      · rw [h1]; exact hf u
    have := args_in (ts := v :: ts) (k := k + 1) h2 (fun j hj => by
      have := hx (j + 1) (by simp; omega)
      simp at this
      rw [show k + 1 + j = k + (j + 1) from by omega]
      simpa using this) hf2
    exact this
theorem Cfg.sound (hC : TableOK P C) (c : Cfg) (n : Nat) (hf : P.funcs[c.id]? = some c.fn) (hname : (c.fn.name == "runtime.NumGoroutine") = false) (hok : c.ok = true) : FnOK P (c.entry P C n) := by
  unfold Cfg.ok at hok
  simp only [Bool.and_eq_true, List.all_eq_true, decide_eq_true_eq] at hok
  obtain ⟨⟨⟨hsh, hps⟩, hbody⟩, hnt⟩ := hok
  obtain ⟨body, hb⟩ := Option.isSome_iff_exists.1 hbody
  have hbo : bodyOf c.fn = body := by unfold bodyOf; rw [hb]; rfl
  have listed : ∀ i, c.has i = true → (c.sh i).ok = true ∧ (occC i body []).length ≤ 1 := by
    intro i hi
    have key : ∀ l : List (Nat × Shape), (l.any fun x => x.1 == i) = true → (i, findS l i) ∈ l := by
      intro l
      induction l with
      | nil => intro h; cases h
      | cons p l ih =>
        obtain ⟨j, g⟩ := p
        intro h
        simp only [findS]
        split
        · rename_i e; subst e; simp
        · rename_i e
          simp only [List.any_cons, Bool.or_eq_true, beq_iff_eq] at h
          rcases h with h | h
          · exact (e h).elim
          · exact List.mem_cons_of_mem _ (ih h)
    have := hsh _ (key c.shapes hi)
    rw [hbo] at this
    exact this
  have only : ∀ i, c.has i = true → ∀ t ∈ occC i body [], t = tds body i := by
    intro i hi t ht
    have hl := (listed i hi).2
    unfold tds
    match h : occC i body [], hl, ht with
    | [u], _, ht => simp at ht; simp [ht]
  have inside : ∀ i j t, t ∈ occ j (tds body i) → t ∈ occC j body [] := by
    intro i j t ht
    unfold tds at ht
    cases h : occC i body [] with
    | nil => rw [h] at ht; simp [occ] at ht
    | cons u us =>
      rw [h] at ht
      have hu : u ∈ occC i body [] := by rw [h]; simp
      have := occ_in j hu t ht
      simpa [occ] using this
  have jump : ∀ {L : (i : Nat) → slotsDen (c.sh i).slots → memDen (c.sh i).mem → Option (dens c.rt)} {i : Nat} {s : St} {z : dens c.rt}, c.J L i s = some z → c.has i = true ∧ decSt (c.sh i) s (L i) = some z := by
    intro L i s z h
    unfold Cfg.J at h
    cases hh : c.has i with
    | true => rw [hh] at h; exact ⟨rfl, h⟩
    | false => rw [hh] at h; cases h
  -- the cuts
  have cutsOK : ∀ m i, c.has i = true → ∀ x y z (cx : Cx) (a : Act) (w : World) (ρ : Nat → Value), c.LL P C m i x y = some z → Sim cx (encSt (c.sh i) x y) a w ρ → Goes P c.id (tds body i) a w (Post cx c.rt z) := by
    intro m
    induction m with
    | zero => intro i _ x y z cx a w ρ h _; simp only [Cfg.LL] at h; cases h
    | succ m ih =>
      intro i _ x y z cx a w ρ h hs
      simp only [Cfg.LL] at h
      rw [hbo] at h
      refine run_sound hC (td := tds body) hf ?_ steps true _ hs ?_ h
      · intro j s a w ρ hs hj
        obtain ⟨hh, hd⟩ := jump hj
        obtain ⟨x', y', ρ', hL, hs'⟩ := decSt_sound hs (listed j hh).1 hd
        exact ih j hh x' y' z cx a w ρ' hL hs'
      · intro j s hj t ht
        exact only j (jump hj).1 t (inside i j t ht)
  intro own w y z xs hfy hown hargs
  refine .inl ⟨?_, ?_⟩
  · unfold callFunc
    simp only [Sem.run_bind, run_program, Result.andThen_ok]
    show (match P.funcs[c.id]? with | none => _ | some fn => _ : Sem Next).run P w = _
    rw [hf]
    simp only [hname, hb]
    rfl
  · have hlen : xs.length ≤ c.fn.ntmps := by rw [hargs.len]; exact hps
    have hsim : Sim ⟨own, w, fun _ => False⟩ (start c.fn.ntmps c.depth (encs c.ps y)) { tmps := xs.toArray ++ Array.replicate (c.fn.ntmps - xs.toArray.size) undef, defers := [] } w (fun _ => undef) := by
      refine ⟨?_, rfl, Bel.refl _ _, hown, fun d o b h => (by cases h), fun d o b h => (by cases h), fun d d' o o' b h => (by cases h), fun d o h => (by cases h), ?_⟩
      · simp [start]; omega
      · have hargs2 : RR w (Own ⟨own, w, fun _ => False⟩ (fun _ => undef) []) c.ps y xs := by
          have : Own ⟨own, w, fun _ => False⟩ (fun _ => undef) [] = own := by
            funext b
            simp [Own, getM]
          rw [this]
          exact hargs
        refine args_in (k := 0) hargs2 ?_ ?_
        · intro j hj
          simp [Array.getD_eq_getD_getElem?, Array.getElem?_append, hj, List.getD]
        · intro t
          rw [Fr.get_mk]
          trivial
    have hgo := run_sound hC (td := tds body) hf (fun j s a w ρ hs hj => by
        obtain ⟨hh, hd⟩ := jump hj
        obtain ⟨x', y', ρ', hL, hs'⟩ := decSt_sound hs (listed j hh).1 hd
        exact cutsOK n j hh x' y' z _ a w ρ' hL hs') steps false [.code (bodyOf c.fn)] hsim (fun j s hj t ht => by
        rw [hbo] at ht
        exact only j (jump hj).1 t (by simpa [occ] using ht)) hfy
    intro cs
    let b : Frame := { (default : Frame) with fn := c.id, kind := .normal }
    obtain ⟨v, w', fr, hR, hst, hfn, hl⟩ := hgo b cs rfl rfl
    have henter : Frame.enter P c.id xs.toArray .normal = b.at { tmps := xs.toArray ++ Array.replicate (c.fn.ntmps - xs.toArray.size) undef, defers := [] } [.code (bodyOf c.fn)] := by
      simp [Frame.enter, Frame.at, hf, hb, b, hbo]
    obtain ⟨ys, h1, h2, h3⟩ := hR
    have hR' : ∃ ys, v = wrapVal ys ∧ Below w.heap.size w w' ∧ RR w' own c.rt z ys := ⟨ys, h1, ⟨h2.os, h2.tape, h2.output, h2.size, fun k hk => h2.block k hk fun x => x.elim (fun h => absurd hk (Nat.not_lt.2 h)) (fun h => h)⟩, h3⟩
    refine ⟨.returned v, w', fr, ⟨v, rfl, hR'⟩, ?_, hfn, hl⟩
    show Steps P _ _
    rw [show (c.entry P C n).id = c.id from rfl, henter]
    exact hst
end
end Go.Rf
