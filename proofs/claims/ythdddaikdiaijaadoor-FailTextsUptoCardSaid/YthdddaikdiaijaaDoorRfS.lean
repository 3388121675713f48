/- From a function that is right, and a plain law over data, to a row of a law. -/
import Derived.Test.YthdddaikdiaijaaDoorRfR
import Derived.Carry
import Derived.WalkKit
import Derived.Deep.CondSized
import Derived.Deep.DeepHandedRow
namespace Go.Rf

open Go.WideShapes Go.ChangeShapes Go.ChangeAt Go.RowKit
def WfL (P : Program) : (ts : List Ty) → dens ts → Prop
  | [], _ => True
  | [t], y => Wf P t y
  | t :: u :: ts, y => Wf P t y.1 ∧ WfL P (u :: ts) y.2
def tyL (P : Program) : List TypeId → Option (List Ty)
  | [] => some []
  | T :: Ts => match tyOf P 12 T, tyL P Ts with
    | some t, some ts => some (t :: ts)
    | _, _ => none
def argsOK (P : Program) (Ts : List TypeId) : Bool := Ts.all fun T => lay P 12 T && P.readableRec T && decide (T < P.types.size)
section
variable {H : Type} {enc : TypeId × Value → H} {P : Program} {w w' : World}
theorem open_args (laid : laidOutB P = true) : ∀ {Ts : List TypeId} {ts : List Ty} {vs : List Value} {ds : List (DataW H)} {p : List MemPlace}, tyL P Ts = some ts → argsOK P Ts = true →
    (∀ (j : Nat) t v, Ts[j]? = some t → vs[j]? = some v → ∃ (r : Reach) (b : Nat), Value.okWide P w r b t v) → DataW.TrodAll enc P w 0 (fun _ => true) true Ts vs ds p → (∀ k ∈ DataW.weightsEach P Ts ds, k ≤ reachBytes) →
    (∃ y : dens ts, RR w (fun _ => False) ts y vs ∧ WfL P ts y) ∧ ∀ w', Below w.heap.size w w' → ∃ q, DataW.TrodAll enc P w' 0 (fun b => decide (b < w.heap.size)) true Ts vs ds q
  | [], ts, vs, ds, p, ht, _, _, hA, _ => by
    obtain ⟨rfl, rfl, rfl⟩ := trodAll_nil hA
    cases ht
    exact ⟨⟨(), rfl, trivial⟩, fun w' _ => ⟨[], trodAll_mk0⟩⟩
  | T :: Ts, ts, vs, ds, p, ht, hok, hv, hA, hg => by
    obtain ⟨v, vs', d, ds', p, q, rfl, rfl, rfl, h, hA'⟩ := trodAll_cons hA
    simp only [tyL] at ht
    cases h1 : tyOf P 12 T with
    | none => rw [h1] at ht; cases ht
    | some t => cases h2 : tyL P Ts with
      | none => rw [h1, h2] at ht; cases ht
      | some us =>
        rw [h1, h2] at ht
        cases ht
        simp only [argsOK, List.all_cons, Bool.and_eq_true, decide_eq_true_eq] at hok
        obtain ⟨⟨⟨hl, hr⟩, hlt⟩, hok⟩ := hok
        obtain ⟨r, b, hv0⟩ := hv 0 T v rfl rfl
        obtain ⟨y, hy, hw⟩ := open_arg h1 hl hv0 h (fun k hk => hg k (by simp only [DataW.weightsEach, List.mem_append]; exact .inl hk))
        obtain ⟨⟨z, hz, hwz⟩, hc⟩ := open_args laid h2 hok (fun j t v ht hv' => hv (j + 1) t v ht hv') hA' (fun k hk => hg k (by simp only [DataW.weightsEach, List.mem_append]; exact .inr hk))
        refine ⟨?_, ?_⟩
        · cases us with
          | nil =>
            have : vs' = [] := hz
            subst this
            exact ⟨y, ⟨v, rfl, hy⟩, hw⟩
          | cons u us => exact ⟨(y, z), ⟨v, vs', rfl, hy, hz⟩, hw, hwz⟩
        · intro w' hb
          obtain ⟨q', hq⟩ := hc w' hb
          refine ⟨_, trodAll_cons_mk (Below.trod laid hr hlt h hb ?_) hq⟩
          obtain ⟨m, hm⟩ := h
          exact DataW.trod_lt m _ _ _ hm
end
theorem weights_pre {H : Type} {P : Program} {X : List TypeId} {Y : List (DataW H)} {k : Nat} : ∀ {Ts : List TypeId} {ds : List (DataW H)}, k ∈ DataW.weightsEach P Ts ds → k ∈ DataW.weightsEach P (Ts ++ X) (ds ++ Y)
  | [], _, h => by simp [DataW.weightsEach] at h
  | _ :: _, [], h => by simp [DataW.weightsEach] at h
  | T :: Ts, d :: ds, h => by
    simp only [DataW.weightsEach, List.cons_append, List.mem_append] at h ⊢
    rcases h with h | h
    · exact .inl h
    · exact .inr (weights_pre h)
/-- What a call of a law's function does that returns true at all data. -/
theorem law_contract_b {H : Type} {enc : TypeId × Value → H} {C : Checked} {f : FuncId} {fn : Func} {s : ChangeSpec} {ts : List Ty} {T : TypeId} {F : Nat → dens ts → Option Bool}
    (hfn : C.prog.funcs[f]? = some fn) (laid : laidOutB C.prog = true)
    (hbody : fn.body.isSome = true) (hname : (fn.name == "runtime.NumGoroutine") = false) (hvars : s.vars = []) (hres : fn.resultTypes = #[T]) (hbool : C.prog.underlying T = some .bool)
    (hs : ∀ (H : Type) (ds : List (DataW H)), ds.length = fn.params.size → (s.fn H ds).results = [.lit (.bool true)] ∧ (s.fn H ds).args = ds ∧ (s.fn H ds).vars = [])
    (ht : tyL C.prog fn.params.toList = some ts) (hok : argsOK C.prog fn.params.toList = true)
    (W : World) (right : ∀ n, FnOK C.prog W ⟨f, ts, [.bool], F n⟩) (Bd : dens ts → Prop) (plain : ∀ y, WfL C.prog ts y → Bd y → ∃ n, F n y = some true)
    (base : Nat) (args : Array Value) (ds gs : List (DataW H)) (before : List MemPlace) (X : List TypeId)
    (hval : ∀ (j : Nat) t v, fn.params[j]? = some t → args[j]? = some v → Value.okWide C.prog W .any base t v)
    (hBd : ∀ y p, RR W (fun _ => False) ts y args.toList → DataW.TrodAll enc C.prog W 0 (fun _ => true) true fn.params.toList args.toList ds p → Bd y)
    (hW : DataW.Whole enc C.prog fn.params.toList s.vars false W args.toList ds gs before) (hz : (DataW.weightsEach C.prog (fn.params.toList ++ X) (ds ++ gs)).all (· ≤ reachBytes) = true) :
    Calls C.prog f args W fun e W' => ∃ v, e = .returned v ∧ s.post enc C.prog fn false true false false W args v W' := by
  have hW' := hW
  obtain ⟨p, q, hA, hV, rfl, hfz, hnd⟩ := hW
  rw [hvars] at hV
  obtain ⟨rfl, rfl⟩ := trodVars_none hV
  obtain ⟨⟨y, hy, hw⟩, hback⟩ := open_args laid ht hok (fun j t v h1 h2 => ⟨.any, base, hval j t v (by simpa using h1) (by simpa using h2)⟩) hA (fun k hk => by
      have h1 := List.all_eq_true.1 hz k (weights_pre hk)
      simpa using h1)
  obtain ⟨n, hn⟩ := plain y hw (hBd y p hy hA)
  have hd := right n (fun _ => False) W y true args.toList hn (Below.refl _ _) (fun b h => h.elim) hy
  have henter : (callFunc f args).run C.prog W = .ok (.enter f args) W := by
    obtain ⟨body, hb⟩ := Option.isSome_iff_exists.1 hbody
    unfold callFunc
    simp only [Sem.run_bind, run_program, Result.andThen_ok]
    show (match C.prog.funcs[f]? with | none => _ | some fn => _ : Sem Next).run C.prog W = _
    rw [hfn]
    simp only [hname, hb]
    rfl
  have hcall : Calls C.prog f args W fun e w' => ∃ v, e = .returned v ∧ ∃ ys, v = wrapVal ys ∧ Below W.heap.size W w' ∧ RR w' (fun _ => False) [.bool] true ys := by
    rcases hd with ⟨_, h⟩ | ⟨v, w', h, _⟩
    · simpa using h
    · exfalso
      have h2 : (callFunc f args).run C.prog W = .ok (.value v) w' := by simpa using h
      rw [henter] at h2
      cases h2
  refine hcall.mono ?_
  rintro e w' ⟨v, rfl, ys, rfl, hbel, x, rfl, hx⟩
  have hx2 : x = .bool true := by
    have : DR w' (fun _ => False) .bool true [x] := hx
    simpa [DR] using this
  subst hx2
  obtain ⟨q, hq⟩ := hback w' hbel
  have hlen : ds.length = fn.params.size := by
    have : ∀ {Ts : List TypeId} {vs : List Value} {ds : List (DataW H)} {p : List MemPlace}, DataW.TrodAll enc C.prog W 0 (fun _ => true) true Ts vs ds p → ds.length = Ts.length := by
      intro Ts
      induction Ts with
      | nil => intro vs ds p h; obtain ⟨_, rfl, _⟩ := trodAll_nil h; rfl
      | cons T Ts ih => intro vs ds p h; obtain ⟨v, vs', d, ds', p, q, rfl, rfl, rfl, _, h2⟩ := trodAll_cons h; simp [ih h2]
    rw [this hA]; simp
  obtain ⟨s1, s2, s3⟩ := hs H (ds ++ []) (by simpa using hlen)
  refine ⟨.bool true, rfl, ds, [], p ++ [], [], q, [], hW', ?_, ?_, ?_, hbel.frame _, fun h => by cases h⟩
  · rw [s1, hres]
    exact trodAll_mk1 (shut_bool hbool _)
  · rw [s2]; simpa using hq
  · rw [s3, hvars]
    exact rfl
theorem law_contract {H : Type} {enc : TypeId × Value → H} {C : Checked} {f : FuncId} {fn : Func} {s : ChangeSpec} {ts : List Ty} {T : TypeId} {F : Nat → dens ts → Option Bool}
    (hfn : C.prog.funcs[f]? = some fn) (laid : laidOutB C.prog = true)
    (hbody : fn.body.isSome = true) (hname : (fn.name == "runtime.NumGoroutine") = false) (hvars : s.vars = []) (hres : fn.resultTypes = #[T]) (hbool : C.prog.underlying T = some .bool)
    (hs : ∀ (H : Type) (ds : List (DataW H)), ds.length = fn.params.size → (s.fn H ds).results = [.lit (.bool true)] ∧ (s.fn H ds).args = ds ∧ (s.fn H ds).vars = [])
    (ht : tyL C.prog fn.params.toList = some ts) (hok : argsOK C.prog fn.params.toList = true)
    (W : World) (right : ∀ n, FnOK C.prog W ⟨f, ts, [.bool], F n⟩) (plain : ∀ y, WfL C.prog ts y → ∃ n, F n y = some true)
    (base : Nat) (args : Array Value) (ds gs : List (DataW H)) (before : List MemPlace) (X : List TypeId)
    (hval : ∀ (j : Nat) t v, fn.params[j]? = some t → args[j]? = some v → Value.okWide C.prog W .any base t v)
    (hW : DataW.Whole enc C.prog fn.params.toList s.vars false W args.toList ds gs before) (hz : (DataW.weightsEach C.prog (fn.params.toList ++ X) (ds ++ gs)).all (· ≤ reachBytes) = true) :
    Calls C.prog f args W fun e W' => ∃ v, e = .returned v ∧ s.post enc C.prog fn false true false false W args v W' :=
  law_contract_b hfn laid hbody hname hvars hres hbool hs ht hok W right (fun _ => True) (fun y h _ => plain y h) base args ds gs before X hval (fun _ _ _ _ => trivial) hW hz
/-- A law's function returns true at all data: so its row is true. -/
theorem law_lifted {H : Type} {enc : TypeId × Value → H} {C : Checked} {os : Os} {f : FuncId} {fn : Func} {s : ChangeSpec} {conds : List PathCond} {ts : List Ty} {T : TypeId} {F : Nat → dens ts → Option Bool}
    (own : ownKnob C.prog.godebug = none) (started : os.Started) (noInit : C.prog.inits.idxOf? f = none) (hfn : C.prog.funcs[f]? = some fn) (laid : laidOutB C.prog = true)
    (hbody : fn.body.isSome = true) (hname : (fn.name == "runtime.NumGoroutine") = false) (hvars : s.vars = []) (hres : fn.resultTypes = #[T]) (hbool : C.prog.underlying T = some .bool)
    (hs : ∀ (H : Type) (ds : List (DataW H)), ds.length = fn.params.size → (s.fn H ds).results = [.lit (.bool true)] ∧ (s.fn H ds).args = ds ∧ (s.fn H ds).vars = [])
    (ht : tyL C.prog fn.params.toList = some ts) (hok : argsOK C.prog fn.params.toList = true)
    (witness : ∃ (w : World) (tape : Tape) (i : Input), w.os = os ∧ (w.forCall tape i).Shaped C.prog ∧ i.vars = [] ∧ Input.okWide C.prog (w.forCall tape i) .any w.heap.size f i ∧
      s.pre6 enc C.prog fn conds false (w.forCall tape i).memory i.args ∧ ({} : Assume).holds C.prog (lone (Frame.enter C.prog f i.args .normal) [] (w.forCall tape i)))
    (right : ∀ (W0 : World) n, FnOK C.prog W0 ⟨f, ts, [.bool], F n⟩) (plain : ∀ y, WfL C.prog ts y → ∃ n, F n y = some true) :
    ReturnsInHanded {} C os f .any (s.pre6 enc C.prog fn conds false) (s.post enc C.prog fn false true false false) :=
  returnsInHanded_of_change_sized own started noInit hfn witness fun W base args ds gs before hval hW _ hz _ =>
    law_contract hfn laid hbody hname hvars hres hbool hs ht hok W (right W) plain base args ds gs before _ hval hW hz
/-- The same, where what is read is small. -/
theorem law_lifted_upto {H : Type} {enc : TypeId × Value → H} {C : Checked} {os : Os} {f : FuncId} {fn : Func} {s : ChangeSpec} {k : (H : Type) → List (DataW H) → Bool} {I : Stop.Interp} {conds : List PathCond} {ts : List Ty} {T : TypeId} {F : Nat → dens ts → Option Bool}
    (own : ownKnob C.prog.godebug = none) (started : os.Started) (noInit : C.prog.inits.idxOf? f = none) (hfn : C.prog.funcs[f]? = some fn) (laid : laidOutB C.prog = true)
    (hbody : fn.body.isSome = true) (hname : (fn.name == "runtime.NumGoroutine") = false) (hvars : s.vars = []) (hres : fn.resultTypes = #[T]) (hbool : C.prog.underlying T = some .bool)
    (hs : ∀ (H : Type) (ds : List (DataW H)), ds.length = fn.params.size → (s.fn H ds).results = [.lit (.bool true)] ∧ (s.fn H ds).args = ds ∧ (s.fn H ds).vars = [])
    (ht : tyL C.prog fn.params.toList = some ts) (hok : argsOK C.prog fn.params.toList = true)
    (witness : ∃ (w : World) (tape : Tape) (i : Input), w.os = os ∧ (w.forCall tape i).Shaped C.prog ∧ i.vars = [] ∧ Input.okWide C.prog (w.forCall tape i) .any w.heap.size f i ∧
      ({ OpenSpec.ofChange s with cond := some k } : OpenSpec).pre6 enc C.prog fn conds false (w.forCall tape i).memory i.args ∧ ({} : Assume).holds C.prog (lone (Frame.enter C.prog f i.args .normal) [] (w.forCall tape i)))
    (right : ∀ (W0 : World) n, FnOK C.prog W0 ⟨f, ts, [.bool], F n⟩) (plain : ∀ y, WfL C.prog ts y → ∃ n, F n y = some true) :
    ReturnsInHanded {} C os f .any (({ OpenSpec.ofChange s with cond := some k } : OpenSpec).pre6 enc C.prog fn conds false) ((({ OpenSpec.ofChange s with cond := some k } : OpenSpec).at I).post enc C.prog fn false true false false) :=
  returnsInHanded_of_cond_sized (s := { OpenSpec.ofChange s with cond := some k }) rfl own started noInit hfn witness fun W base args ds gs before hval hW _ _ hz _ =>
    law_contract hfn laid hbody hname hvars hres hbool hs ht hok W (right W) plain base args ds gs before _ hval hW hz
/-- The same, of a row that lists package variables. -/
theorem law_lifted_row {H : Type} {enc : TypeId × Value → H} {C : Checked} {os : Os} {f : FuncId} {fn : Func} {s : ChangeSpec} {I : Stop.Interp} {conds : List PathCond} {listed : List (String × DataW Unit)} {ts : List Ty} {T : TypeId} {F : Nat → dens ts → Option Bool}
    (own : ownKnob C.prog.godebug = none) (started : os.Started) (noInit : C.prog.inits.idxOf? f = none) (hfn : C.prog.funcs[f]? = some fn) (laid : laidOutB C.prog = true)
    (hbody : fn.body.isSome = true) (hname : (fn.name == "runtime.NumGoroutine") = false) (hvars : s.vars = []) (hres : fn.resultTypes = #[T]) (hbool : C.prog.underlying T = some .bool)
    (hs : ∀ (H : Type) (ds : List (DataW H)), ds.length = fn.params.size → (s.fn H ds).results = [.lit (.bool true)] ∧ (s.fn H ds).args = ds ∧ (s.fn H ds).vars = [])
    (ht : tyL C.prog fn.params.toList = some ts) (hok : argsOK C.prog fn.params.toList = true)
    (witness : ∃ (w : World) (tape : Tape) (i : Input), w.os = os ∧ (w.forCall tape i).Shaped C.prog ∧ i.vars = [] ∧ Input.okWide C.prog (w.forCall tape i) .any w.heap.size f i ∧
      (OpenSpec.ofChange s).preRow enc C.prog fn conds false listed (w.forCall tape i).memory i.args ∧ ({} : Assume).holds C.prog (lone (Frame.enter C.prog f i.args .normal) [] (w.forCall tape i)))
    (right : ∀ (W0 : World), laidMetH C.prog listed W0 → W0.ShapedOpen C.prog → ∀ n, FnOK C.prog W0 ⟨f, ts, [.bool], F n⟩) (plain : ∀ y, WfL C.prog ts y → ∃ n, F n y = some true) :
    ReturnsInHanded {} C os f .any ((OpenSpec.ofChange s).preRow enc C.prog fn conds false listed) (((OpenSpec.ofChange s).at I).post enc C.prog fn false true false false) :=
  returnsInHanded_of_row (s := OpenSpec.ofChange s) own started noInit hfn witness fun W base args ds gs before hval hW _ _ hz hL hS _ =>
    law_contract hfn laid hbody hname hvars hres hbool hs ht hok W (right W hL hS) plain base args ds gs before _ hval hW hz
/-- The same, where what is read is small: Bd tells what is known then of the data. -/
theorem law_lifted_row_upto {H : Type} {enc : TypeId × Value → H} {C : Checked} {os : Os} {f : FuncId} {fn : Func} {s : ChangeSpec} {k : (H : Type) → List (DataW H) → Bool} {I : Stop.Interp} {conds : List PathCond} {listed : List (String × DataW Unit)} {ts : List Ty} {T : TypeId} {F : Nat → dens ts → Option Bool}
    (own : ownKnob C.prog.godebug = none) (started : os.Started) (noInit : C.prog.inits.idxOf? f = none) (hfn : C.prog.funcs[f]? = some fn) (laid : laidOutB C.prog = true)
    (hbody : fn.body.isSome = true) (hname : (fn.name == "runtime.NumGoroutine") = false) (hvars : s.vars = []) (hres : fn.resultTypes = #[T]) (hbool : C.prog.underlying T = some .bool)
    (hs : ∀ (H : Type) (ds : List (DataW H)), ds.length = fn.params.size → (s.fn H ds).results = [.lit (.bool true)] ∧ (s.fn H ds).args = ds ∧ (s.fn H ds).vars = [])
    (ht : tyL C.prog fn.params.toList = some ts) (hok : argsOK C.prog fn.params.toList = true)
    (witness : ∃ (w : World) (tape : Tape) (i : Input), w.os = os ∧ (w.forCall tape i).Shaped C.prog ∧ i.vars = [] ∧ Input.okWide C.prog (w.forCall tape i) .any w.heap.size f i ∧
      ({ OpenSpec.ofChange s with cond := some k } : OpenSpec).preRow enc C.prog fn conds false listed (w.forCall tape i).memory i.args ∧ ({} : Assume).holds C.prog (lone (Frame.enter C.prog f i.args .normal) [] (w.forCall tape i)))
    (right : ∀ (W0 : World), laidMetH C.prog listed W0 → W0.ShapedOpen C.prog → ∀ n, FnOK C.prog W0 ⟨f, ts, [.bool], F n⟩) (Bd : dens ts → Prop)
    (hBd : ∀ (W : World) (args : List Value) (ds : List (DataW H)) (y : dens ts) (p : List MemPlace), RR W (fun _ => False) ts y args → DataW.TrodAll enc C.prog W 0 (fun _ => true) true fn.params.toList args ds p → k H ds = true → Bd y)
    (plain : ∀ y, WfL C.prog ts y → Bd y → ∃ n, F n y = some true) :
    ReturnsInHanded {} C os f .any (({ OpenSpec.ofChange s with cond := some k } : OpenSpec).preRow enc C.prog fn conds false listed) ((({ OpenSpec.ofChange s with cond := some k } : OpenSpec).at I).post enc C.prog fn false true false false) :=
  returnsInHanded_of_row (s := { OpenSpec.ofChange s with cond := some k }) own started noInit hfn witness fun W base args ds gs before hval hW _ hk hz hL hS _ =>
    law_contract_b hfn laid hbody hname hvars hres hbool hs ht hok W (right W hL hS) Bd plain base args ds gs before _ hval (fun y p h1 h2 => hBd W args.toList ds y p h1 h2 (by
      have hV := hW
      obtain ⟨_, _, _, hV, _⟩ := hV
      rw [show ({ OpenSpec.ofChange s with cond := some k } : OpenSpec).vars = s.vars from rfl, hvars] at hV
      obtain ⟨rfl, _⟩ := trodVars_none hV
      have := hk k rfl
      rwa [List.append_nil] at this)) hW hz
end Go.Rf
