/- The library's functions over a row of whole numbers that is handed in: what their contracts say, as functions that are handed objects. -/
import Derived.Test.YthdddaikdiaijaaDoorRfT
import Derived.Sort.Grow
import Derived.Lib.Builder
namespace Go.Rf
open Go.RowKit (Below)
abbrev encN : Int → Value := Value.int .i64
/-- A row of whole numbers as cells. -/
theorem rowN (w : World) (own : Nat → Prop) : ∀ l : List Int, Row (DR w own (.int .i64)) l (l.map encN)
  | [] => rfl
  | x :: l => ⟨[encN x], l.map encN, rfl, rfl, rowN w own l⟩
theorem rowN_eq {w : World} {own : Nat → Prop} : ∀ {l : List Int} {cs : List Value}, Row (DR w own (.int .i64)) l cs → cs = l.map encN
  | [], _, h => h
  | x :: l, _, ⟨a, b, e, h1, h2⟩ => by
    have h1 : a = [encN x] := h1
    rw [e, h1, rowN_eq h2]
    rfl
/-- What a row's cells hold, in the library's words. -/
theorem holdsN {w : World} {g : Nat} {cur : Array Value} {e : TypeId} {l : List Int} (hg : w.heap[g]? = some (.cells cur e (0, 0))) (ht : cur.toList.take l.length = l.map encN) : Sort.Holds encN w g 0 l.toArray := by
  intro j hj
  have hj' : j < l.length := by simpa using hj
  refine ⟨?_, Lib.frozen_of_heap hg _⟩
  rw [Nat.zero_add, Lib.cell_of_heap hg]
  have h1 := congrArg (fun z => z[j]?) ht
  simp only [List.getElem?_take, hj', if_true, List.getElem?_map, List.getElem?_eq_getElem hj', Option.map_some] at h1
  have h2 : cur[j]? = cur.toList[j]? := by simp
  rw [h2, h1]
  simp [hj']
/-- A row that was written over, and blocks behind it. -/
theorem putRow_out {w w' : World} {g cap : Nat} {cur : Array Value} {e : TypeId} {zs : List Int} {q : Nat} {os : Array Go.Obj} (hg : w.heap[g]? = some (.cells cur e (0, 0))) (hw : w' = Sort.grow (Sort.putRow encN (Sort.ahead w q) g 0 zs.toArray) os)
    (hcm : cap ≤ maxLen) (hcs : cur.size = cap * 1) (hle : zs.length ≤ cap) {k : Nat} (hk : k ≤ zs.length) :
    w'.ownsRow 0 e 1 (.slice (some ⟨g, 0, none⟩) k cap) k ((zs.take k).map encN) ∧ Bel (fun b => b = g) w w' := by
  subst hw
  have hlt : g < w.heap.size := (Array.getElem?_eq_some_iff.1 hg).1
  have hg2 : (Sort.grow (Sort.putRow encN (Sort.ahead w q) g 0 zs.toArray) os).heap[g]? = some (.cells (Sort.putCells encN 0 zs.toArray cur) e (0, 0)) := by
    unfold Sort.grow Sort.putRow Sort.mapBlock Sort.ahead
    simp only
    rw [Array.getElem?_append_left (by simpa using hlt), Array.getElem?_modify, if_pos rfl, hg]
    rfl
  refine ⟨⟨by simp [List.length_take, Nat.min_eq_left hk], .inr ⟨g, cap, _, rfl, Nat.zero_le _, hg2, by omega, hcm, by simp [Sort.putCells, hcs], ?_⟩⟩, ⟨rfl, rfl, rfl, by simp [Sort.grow, Sort.putRow, Sort.mapBlock, Sort.ahead], fun b hb hne => ?_⟩⟩
  · refine List.ext_getElem? fun j => ?_
    simp only [Nat.mul_one, List.getElem?_take, List.getElem?_map]
    by_cases hj : j < k
    · have hjz : j < zs.length := by omega
      have hjc : j < cur.size := by omega
      simp only [hj, if_true]
      rw [List.getElem?_eq_getElem hjz]
      simp [Sort.putCells, hjc, hjz]
    · simp [hj]
  · unfold Sort.grow Sort.putRow Sort.mapBlock Sort.ahead
    simp only
    rw [Array.getElem?_append_left (by simpa using hb), Array.getElem?_modify, if_neg (fun x => hne x.symm)]
/-- The state behind such a call: the one row turns. -/
theorem row_turns {cx : Cx} {s : St} {a : Act} {w w' : World} {ρ : Nat → Value} (h : Sim cx s a w ρ) {d : Nat} {E : TypeId} {l l' : List Int} (hm : s.mem = [(d, .row E (.int .i64) l)]) (hd : 1000 ≤ d) {v' : Value}
    (hbel : Bel (fun b => hb (ρ d) = some b) w w') (hbv : ∀ b, hb v' = some b → hb (ρ d) = some b) (hown : w'.ownsRow 0 E 1 v' l'.length (l'.map encN))
    {n : Nat} {fr : Fr} {ys : List Value} (hn : ys.length = n) (hfr : ∀ own t, VR w' own (updH ρ d v') [(d, .row E (.int .i64) l')] (fr.get t) (ys.toArray.getD t undef)) :
    Sim cx ⟨n, fr, [(d, .row E (.int .i64) l')]⟩ { tmps := ys.toArray, defers := [] } w' (updH ρ d v') := by
  have hg : getM s.mem d = some (.row E (.int .i64) l) := by rw [hm]; simp [getM]
  have hg2 : getM ([(d, .row E (.int .i64) l')] : Mem) d = some (.row E (.int .i64) l') := by simp [getM]
  have hne : ∀ e, e ≠ d → getM ([(d, .row E (.int .i64) l')] : Mem) e = getM s.mem e := by
    intro e he
    rw [hm]
    simp [getM, Ne.symm he]
  have h1 : Sim cx ⟨s.n, Fr.mk 0, [(d, .row E (.int .i64) l')]⟩ a w' (updH ρ d v') := by
    refine h.upd (s' := ⟨s.n, Fr.mk 0, [(d, .row E (.int .i64) l')]⟩) d (.row E (.int .i64) l') rfl hg2 hne (fun e he => upd_ne he) (hbel.mono fun k _ hk => (h.ge d _ k hg hk).1) ?_ ?_ ?_ ?_ ?_ ?_
    · intro b hlt hor
      refine hbel.block b hlt fun hk => ?_
      rcases hor with hn | hn
      · rw [hg] at hn; cases hn
      · exact hn hk
    · intro b hb'
      rw [upd_same] at hb'
      exact .inl ⟨by rw [hg]; simp, hbv b hb'⟩
    · exact ⟨by decide, _, by rw [upd_same]; exact hown, rowN _ _ _⟩
    · cases hp : cx.pin d with
      | none => exact .inl rfl
      | some x => have := h.pl d x hp; omega
    · intro t
      exact .inl (Fr.get_mk _ _)
    · intro e v he hv _
      rw [hm] at hv
      simp [getM, Ne.symm he] at hv
  exact h1.refr rfl (by simpa using hn) rfl (hfr _)
def rowInp (E : TypeId) : List (Nat × OSh) := [(100001, .row E (.int .i64))]
/-- It turns a row in place and answers nothing. -/
def inPlaceE (f : FuncId) (E : TypeId) (F : List Int → Option (List Int)) : OE :=
  ⟨f, ⟨1, 0, [(0, .rs 100001)], rowInp E⟩, [⟨0, 0, [], rowInp E⟩], fun _ y => (F y.1).map fun l => ((), (l, ())), [100001]⟩
/-- It turns a row in place and answers its head. -/
def headE (f : FuncId) (E : TypeId) (F : List Int → Option (List Int)) : OE :=
  ⟨f, ⟨1, 0, [(0, .rs 100001)], rowInp E⟩, [⟨1, 0, [(0, .rs 100001)], rowInp E⟩], fun _ y => (F y.1).map fun l => ((), (l, ())), []⟩
/-- A call of a function with code, by its contract. -/
theorem Does.of_calls {P : Program} {f : FuncId} {fn : Func} {xs : List Value} {w : World} {R : Value → World → Prop} (hf : P.funcs[f]? = some fn) (hname : (fn.name == "runtime.NumGoroutine") = false) (hbody : fn.body.isSome = true)
    (h : Calls P f xs.toArray w fun e w' => ∃ v, e = .returned v ∧ R v w') : Does P f xs w R := by
  obtain ⟨body, hb⟩ := Option.isSome_iff_exists.1 hbody
  refine .inl ⟨?_, h⟩
  unfold callFunc
  simp only [Sem.run_bind, run_program, Result.andThen_ok]
  rw [hf]
  simp only [hname, hb]
  rfl
/-- A function that a contract tells, over data: nothing of before has changed. -/
theorem FnOK.of_calls {P : Program} {W0 : World} {f : FuncId} {fn : Func} {ps rt : List Ty} {F : dens ps → Option (dens rt)} (hf : P.funcs[f]? = some fn) (hname : (fn.name == "runtime.NumGoroutine") = false) (hbody : fn.body.isSome = true)
    (h : ∀ (own : Nat → Prop) (w : World) (y : dens ps) (r : dens rt) (xs : List Value), F y = some r → Below W0.heap.size W0 w → (∀ b, own b → b < w.heap.size) → RR w own ps y xs →
      Calls P f xs.toArray w fun e w' => ∃ ys, e = .returned (wrapVal ys) ∧ Below w.heap.size w w' ∧ RR w' own rt r ys) : FnOK P W0 ⟨f, ps, rt, F⟩ := by
  intro own w y r xs hy hb ho hx
  exact Does.of_calls hf hname hbody ((h own w y r xs hy hb ho hx).mono fun e w' ⟨ys, e1, h1, h2⟩ => ⟨_, e1, ys, rfl, h1, h2⟩)
/-- What is right of a function with code, as a contract. -/
theorem FnOK.calls {P : Program} {W0 : World} {e : Entry} {fn : Func} (h : FnOK P W0 e) (hf : P.funcs[e.id]? = some fn) (hname : (fn.name == "runtime.NumGoroutine") = false) (hbody : fn.body.isSome = true)
    {own : Nat → Prop} {w : World} {y : dens e.ps} {r : dens e.rt} {xs : List Value} (hy : e.f y = some r) (hb : Below W0.heap.size W0 w) (ho : ∀ b, own b → b < w.heap.size) (hx : RR w own e.ps y xs) :
    Calls P e.id xs.toArray w fun e' w' => ∃ ys, e' = .returned (wrapVal ys) ∧ Below w.heap.size w w' ∧ RR w' own e.rt r ys := by
  rcases h own w y r xs hy hb ho hx with ⟨_, h2⟩ | ⟨v, w', h2, _⟩
  · exact h2.mono fun e' w' ⟨v, e1, ys, e2, h3, h4⟩ => ⟨ys, by rw [e1, e2], h3, h4⟩
  · exfalso
    obtain ⟨body, hbd⟩ := Option.isSome_iff_exists.1 hbody
    have henter : (callFunc e.id xs.toArray).run P w = .ok (.enter e.id xs.toArray) w := by
      unfold callFunc
      simp only [Sem.run_bind, run_program, Result.andThen_ok]
      rw [hf]
      simp only [hname, hbd]
      rfl
    rw [henter] at h2
    cases h2
section
variable {P : Program} {W0 : World} {f : FuncId} {fn : Func} {E : TypeId} {F : List Int → Option (List Int)}
theorem row_arg {cx : Cx} {x : slotsDen [(0, Sh.rs 100001)]} {y : memDen (rowInp E)} {xs : List Value} {w : World} {ρ : Nat → Value} (hlen : xs.length ≤ 1) (h : Sim cx (encSt ⟨1, 0, [(0, .rs 100001)], rowInp E⟩ x y) (actOf 1 xs) w ρ) :
    ∃ l : List Int, y = (l, ()) ∧ w.ownsRow 0 E 1 (ρ 100001) l.length (l.map encN) ∧ (∀ v, ρ 100001 = v → (xs = [v] ∨ (xs = [] ∧ v = undef))) := by
  obtain ⟨l, u⟩ := y
  refine ⟨l, rfl, ?_, ?_⟩
  · obtain ⟨_, css, h1, h2⟩ := h.ob 100001 (.row E (.int .i64) l) (by simp [encSt, encMem, rowInp, getM])
    rw [rowN_eq h2] at h1
    exact h1
  · intro v hv
    have h3 := h.fr 0
    have e : (encSt ⟨1, 0, [(0, .rs 100001)], rowInp E⟩ x (l, u)).fr.get 0 = .rs 100001 := rfl
    rw [e] at h3
    obtain ⟨h4, _⟩ : [_] = [ρ 100001] ∧ _ := h3
    injection h4 with h4
    rw [hv] at h4
    match xs, hlen with
    | [], _ => exact .inr ⟨rfl, by rw [← h4]; simp [actOf]⟩
    | [z], _ => exact .inl (by rw [← h4]; simp [actOf])
/-- By a contract over the row's cells, and one where there are none. -/
theorem inPlace_ok (hf : P.funcs[f]? = some fn) (hname : (fn.name == "runtime.NumGoroutine") = false) (hbody : fn.body.isSome = true)
    (hlen : ∀ l r, F l = some r → r.length = l.length)
    (some_ : ∀ (g cap : Nat) (l r : List Int) (w : World), F l = some r → l ≠ [] → Sort.Holds encN w g 0 l.toArray → g < w.heap.size → l.length ≤ cap → cap ≤ maxLen →
      Calls P f #[.slice (some ⟨g, 0, none⟩) l.length cap] w fun e w' => e = .returned (.tuple #[]) ∧ ∃ q os, w' = Sort.grow (Sort.putRow encN (Sort.ahead w q) g 0 r.toArray) os)
    (none_ : ∀ (p : Option Addr) (cap : Nat) (w : World), Calls P f #[.slice p 0 cap] w fun e w' => e = .returned (.tuple #[]) ∧ w' = w) : OOK P W0 (inPlaceE f E F) := by
  refine ⟨rfl, ?_⟩
  intro cx w x y z xs ρ hz _ _ hkp hxl hsim
  obtain ⟨l, rfl, hown, harg⟩ := row_arg (E := E) hxl hsim
  have hz' : (F l).map (fun l => (((), (l, ())) : Unit × (List Int × Unit))) = some z := hz
  obtain ⟨r, hr, rfl⟩ := Option.map_eq_some_iff.1 hz'
  have hl := hlen l r hr
  have hm : (encSt (⟨1, 0, [(0, .rs 100001)], rowInp E⟩ : Shape) x (l, ())).mem = [(100001, .row E (.int .i64) l)] := rfl
  have fin : ∀ (v : Value) (w' : World), ρ 100001 = v → Bel (fun b => hb v = some b) w w' → w'.ownsRow 0 E 1 v r.length (r.map encN) → ∃ u, Ending.returned (.tuple #[]) = .returned u ∧ Ends cx (inPlaceE f E F).outs ((), (r, ())) u w' := by
    intro v w' hv h1 h2
    refine ⟨.tuple #[], rfl, [], updH ρ 100001 v, rfl, rfl, ?_, fun d u hd => ?_⟩
    rotate_left
    · obtain ⟨h3, h4⟩ := hkp d u hd
      have e : d = 100001 := by simpa [inPlaceE] using h3
      subst e
      rw [upd_same, ← hv, h4]
    refine row_turns (n := 0) (fr := Fr.mk 0) hsim hm (by decide) (by rw [hv]; exact h1) (fun b hb' => by rw [hv]; exact hb') h2 rfl ?_
    intro own t
    rw [Fr.get_mk]
    trivial
  refine Does.of_calls (P := P) (f := f) hf hname hbody ?_
  rcases hown.2 with ⟨hv, h0⟩ | ⟨g, cap, cur, hv, _, hg, hle, hcm, hcs, ht⟩
  · have hl0 : l = [] := List.eq_nil_of_length_eq_zero h0
    have hr0 : r = [] := List.eq_nil_of_length_eq_zero (by omega)
    rcases harg _ hv with rfl | ⟨_, hu⟩
    · refine (none_ none 0 w).mono fun e w' ⟨he, hw⟩ => ?_
      subst he; subst hw
      exact fin _ _ hv (Bel.refl _ _) ⟨by simp [hr0], .inl ⟨rfl, by simp [hr0]⟩⟩
    · cases hu
  · rcases harg _ hv with rfl | ⟨_, hu⟩
    · by_cases hl0 : l = []
      · have hr0 : r = [] := List.eq_nil_of_length_eq_zero (by rw [hl, hl0]; rfl)
        subst hl0
        refine (none_ (some ⟨g, 0, none⟩) cap w).mono fun e w' ⟨he, hw⟩ => ?_
        subst he; subst hw
        subst hr0
        exact fin _ _ hv (Bel.refl _ _) (by rw [← hv]; exact hown)
      · have hH := holdsN hg (by simpa using ht)
        refine (some_ g cap l r w hr hl0 hH (Array.getElem?_eq_some_iff.1 hg).1 hle hcm).mono fun e w' ⟨he, q, os, hw⟩ => ?_
        subst he
        obtain ⟨h1, h2⟩ := putRow_out (cap := cap) hg hw hcm hcs (by omega) (k := r.length) (Nat.le_refl _)
        rw [List.take_length] at h1
        rw [← hl] at hv
        exact fin _ _ hv (h2.mono fun k _ hk => by rw [hk]; rfl) h1
    · cases hu
theorem head_ok (hf : P.funcs[f]? = some fn) (hname : (fn.name == "runtime.NumGoroutine") = false) (hbody : fn.body.isSome = true)
    (hlen : ∀ l r, F l = some r → r.length ≤ l.length)
    (some_ : ∀ (g cap : Nat) (l r : List Int) (w : World), F l = some r → l ≠ [] → Sort.Holds encN w g 0 l.toArray → g < w.heap.size → l.length ≤ cap → cap ≤ maxLen →
      Calls P f #[.slice (some ⟨g, 0, none⟩) l.length cap] w fun e w' => e = .returned (.slice (some ⟨g, 0, none⟩) r.length cap) ∧ ∃ (q : Nat) (zs : List Int) (os : Array Go.Obj), zs.length = l.length ∧ zs.take r.length = r ∧ w' = Sort.grow (Sort.putRow encN (Sort.ahead w q) g 0 zs.toArray) os)
    (none_ : ∀ (p : Option Addr) (cap : Nat) (w : World), Calls P f #[.slice p 0 cap] w fun e w' => e = .returned (.slice p 0 cap) ∧ w' = w) : OOK P W0 (headE f E F) := by
  refine ⟨rfl, ?_⟩
  intro cx w x y z xs ρ hz _ _ hkp hxl hsim
  obtain ⟨l, rfl, hown, harg⟩ := row_arg (E := E) hxl hsim
  have hz' : (F l).map (fun l => (((), (l, ())) : Unit × (List Int × Unit))) = some z := hz
  obtain ⟨r, hr, rfl⟩ := Option.map_eq_some_iff.1 hz'
  have hl := hlen l r hr
  have hm : (encSt (⟨1, 0, [(0, .rs 100001)], rowInp E⟩ : Shape) x (l, ())).mem = [(100001, .row E (.int .i64) l)] := rfl
  have fin : ∀ (v v' : Value) (w' : World), ρ 100001 = v → (∀ b, hb v' = some b → hb v = some b) → Bel (fun b => hb v = some b) w w' → w'.ownsRow 0 E 1 v' r.length (r.map encN) → ∃ u, Ending.returned v' = .returned u ∧ Ends cx (headE f E F).outs ((), (r, ())) u w' := by
    intro v v' w' hv hbv h1 h2
    refine ⟨v', rfl, [v'], updH ρ 100001 v', rfl, rfl, ?_, fun d u hd => by have := (hkp d u hd).1; cases this⟩
    refine row_turns (n := 1) (fr := (Fr.mk 0).set 0 (.rs 100001)) hsim hm (by decide) (by rw [hv]; exact h1) (fun b hb' => by rw [hv]; exact hbv b hb') h2 rfl ?_
    intro own t
    rcases Fr.get_set (Fr.mk 0) 0 t (.rs 100001) with ⟨rfl, e | e⟩ | ⟨_, e⟩ <;> rw [e]
    · exact vr_rs (by rw [upd_same]; rfl) (E := E) (t := .int .i64) (l := r) (by simp [getM])
    · trivial
    · rw [Fr.get_mk]; trivial
  refine Does.of_calls (P := P) (f := f) hf hname hbody ?_
  rcases hown.2 with ⟨hv, h0⟩ | ⟨g, cap, cur, hv, _, hg, hle, hcm, hcs, ht⟩
  · have hl0 : l = [] := List.eq_nil_of_length_eq_zero h0
    have hr0 : r = [] := List.eq_nil_of_length_eq_zero (by omega)
    rcases harg _ hv with rfl | ⟨_, hu⟩
    · refine (none_ none 0 w).mono fun e w' ⟨he, hw⟩ => ?_
      subst he; subst hw
      exact fin _ _ _ hv (fun _ h => h) (Bel.refl _ _) ⟨by simp [hr0], .inl ⟨rfl, by simp [hr0]⟩⟩
    · cases hu
  · rcases harg _ hv with rfl | ⟨_, hu⟩
    · by_cases hl0 : l = []
      · have hr0 : r = [] := List.eq_nil_of_length_eq_zero (by rw [hl0] at hl; simpa using hl)
        subst hl0
        refine (none_ (some ⟨g, 0, none⟩) cap w).mono fun e w' ⟨he, hw⟩ => ?_
        subst he; subst hw
        subst hr0
        exact fin _ _ _ hv (fun _ h => h) (Bel.refl _ _) (by have := hown; rw [hv] at this; exact this)
      · have hH := holdsN hg (by simpa using ht)
        refine (some_ g cap l r w hr hl0 hH (Array.getElem?_eq_some_iff.1 hg).1 hle hcm).mono fun e w' ⟨he, q, zs, os, hzl, hzt, hw⟩ => ?_
        subst he
        obtain ⟨h1, h2⟩ := putRow_out (cap := cap) hg hw hcm hcs (by omega) (k := r.length) (by omega)
        rw [hzt] at h1
        exact fin _ _ _ hv (fun _ h => h) (h2.mono fun k _ hk => by rw [hk]; rfl) h1
    · cases hu
end
end Go.Rf
