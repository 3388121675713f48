/- Each operation (but calls and what makes slices): what the evaluator tells is what the machine does. -/
import Derived.Test.YthdddaikdiaijaaDoorRfEq
namespace Go.Rf
open Go.RowKit (Below)
section
variable {P : Program} {B : Nat → Prop} {C : Tab} {cx : Cx} {s s' s1 : St} {a : Act} {w w' : World} {ρ ρ' : Nat → Value} {R : Type} {out : List V → Mem → Option R} {J : Nat → St → Option R} {r : R}
  {o : Oper} {K : V → St → Tree} {N : Act → World → Prop} {Q : Exit → Act → World → Prop}
theorem eq_bool {T : TypeId} (hu : P.underlying T = some .bool) (m n : Bool) : (Op.equal T (.bool m) (.bool n)).run P w = .ok (m == n) w := by
  have key : ∀ d, (Op.equalIn (d + 1) T (.bool m) (.bool n)).run P w = .ok (m == n) w := fun d => by simp [Op.equalIn, run_underlying hu]
  exact key 9999
theorem eq_nils {T E : TypeId} (hu : P.underlying T = some (.pointer E)) : (Op.equal T (.pointer none) (.pointer none)).run P w = .ok true w := by
  have key : ∀ d, (Op.equalIn (d + 1) T (.pointer none) (.pointer none)).run P w = .ok true w := fun d => by simp [Op.equalIn, run_underlying hu]
  exact key 9999
theorem eq_ptr_nil {T E : TypeId} (x : Addr) (hu : P.underlying T = some (.pointer E)) : (Op.equal T (.pointer (some x)) (.pointer none)).run P w = .ok false w := by
  have key : ∀ d, (Op.equalIn (d + 1) T (.pointer (some x)) (.pointer none)).run P w = .ok false w := fun d => by simp [Op.equalIn, run_underlying hu]
  exact key 9999
/-- What is owed behind an operation. -/
def Owed (cx : Cx) (a : Act) (dst : Option Nat) {R : Type} (out : List V → Mem → Option R) (J : Nat → St → Option R) (r : R) (K : V → St → Tree) (N : Act → World → Prop) : Prop :=
  ∀ v s' w' ρ' x, interp out J (K v s') = some r → Sim cx s' a w' ρ' → VR w' (Own cx ρ' s'.mem) ρ' s'.mem v x → N (a.put dst x) w'
def updH (ρ : Nat → Value) (d : Nat) (x : Value) : Nat → Value := fun e => if e = d then x else ρ e
theorem upd_same {ρ : Nat → Value} {d : Nat} {x : Value} : updH ρ d x d = x := by simp [updH]
theorem upd_ne {ρ : Nat → Value} {d e : Nat} {x : Value} (h : e ≠ d) : updH ρ d x e = ρ e := by simp [updH, h]
/-- Something new at a free key. -/
theorem Sim.new (h : Sim cx s a w ρ) {d : Nat} (hf : s.free d = some s1) (hkd : 1000 ≤ d) (o : Obj) (x : Value) (be : Bel cx.ok w w') (hw : ∀ b, b < w.heap.size → w'.heap[b]? = w.heap[b]?)
    (hnew : ∀ b, hb x = some b → w.heap.size ≤ b ∧ b < w'.heap.size)
    (ob : ∀ ρ' m', (∀ b, b < w.heap.size → Own cx ρ' m' b → Own cx ρ s1.mem b) → (∀ e, e ≠ d → Keeps s1.mem m' ρ ρ' e) → ρ' d = x → (∀ b, hb x = some b → Own cx ρ' m' b) →
      OR 0 w' (Own cx ρ' m') ρ' m' d o) :
    Sim cx { s1 with mem := (d, o) :: s1.mem } a w' (updH ρ d x) := by
  obtain ⟨h1, hnone, hn, hfr, hbx, _⟩ := h.free hf
  have hget : ∀ e, e ≠ d → getM ((d, o) :: s1.mem) e = getM s1.mem e := fun e he => by simp only [getM]; rw [if_neg (fun x => he x.symm)]
  refine h1.upd (s' := { s1 with mem := (d, o) :: s1.mem }) d o rfl (by simp [getM]) hget (fun e he => upd_ne he) be (fun b hlt _ => hw b hlt) ?_ ?_ (.inl ?_) ?_ ?_
  · intro b hb'
    rw [upd_same] at hb'
    exact .inr (hnew b hb')
  · refine ob _ _ ?_ (fun e he => Keeps.same (upd_ne he) (hget e he)) upd_same ?_
    · rintro b hlt (hx | ⟨e, o2, he, hb'⟩)
      · exact .inl hx
      · by_cases hed : e = d
        · subst hed
          rw [upd_same] at hb'
          have := (hnew b hb').1
          omega
        · exact .inr ⟨e, o2, (hget e hed) ▸ he, by rw [upd_ne hed] at hb'; exact hb'⟩
    · intro b hb'
      exact .inr ⟨d, o, by simp [getM], by rw [upd_same]; exact hb'⟩
  · cases hp : cx.pin d with
    | none => rfl
    | some x => have := h1.pl d x hp; omega
  · intro t
    refine .inr ⟨rfl, fun hh => ?_⟩
    rw [(hfr t).1] at hh
    cases hh
  · intro e v _ he hh
    rw [hbx e v he] at hh
    cases hh
theorem vr_rs {own : Nat → Prop} {m : Mem} {d : Nat} {x : Value} {E : TypeId} {t : Ty} {l : List t.den} (h : ρ d = x) (hm : getM m d = some (.row E t l)) : VR w own ρ m (.rs d) x :=
  (⟨by rw [h], E, t, l, hm⟩ : FR w own ρ m (.rs d) [x])
theorem vr_ptr {own : Nat → Prop} {m : Mem} {d b : Nat} {v : V} (h : ρ d = .pointer (some ⟨b, 0, none⟩)) (hm : getM m d = some (.box v)) : VR w own ρ m (.ptr d []) (.pointer (some ⟨b, 0, none⟩)) :=
  (⟨b, 0, v, h, hm, rfl, rfl⟩ : FR w own ρ m (.ptr d []) _)
theorem getM_cons (d : Nat) (o : Obj) (m : Mem) : getM ((d, o) :: m) d = some o := by simp [getM]
theorem below_alloc {B : Nat} (h : B ≤ w.heap.size) (o : Go.Obj) : Below B w (w.alloc o) := (Below.refl B w).alloc h o
theorem bel_alloc {ok : Nat → Prop} (o : Go.Obj) : Bel ok w (w.alloc o) := .of (below_alloc (Nat.le_refl _) o)
theorem old_alloc (o : Go.Obj) : ∀ b, b < w.heap.size → (w.alloc o).heap[b]? = w.heap[b]? := fun b hb => heap_alloc_old w o b hb
theorem Sim.base (h : Sim cx s a w ρ) : cx.w0.heap.size ≤ w.heap.size := h.be.size
/-- A variable is made. -/
theorem key_le (d : Nat) : 1000 ≤ key d := Nat.le_add_right _ _
theorem Sim.newBox (h : Sim cx s a w ρ) {d : Nat} (hf : s.free d = some s1) (hkd : 1000 ≤ d) {v : V} {x : Value} {T : TypeId} {cs : List Value} (hx : x.cells = cs.toArray) (hc : FR w (Own cx ρ s1.mem) ρ s1.mem v cs) (hnd : v.has d = false) (htg : ∀ U, v.tag = some U → T = U) :
    Sim cx { s1 with mem := (d, .box v) :: s1.mem } a (w.alloc (.cells x.cells T)) (updH ρ d (.pointer (some ⟨w.heap.size, 0, none⟩))) := by
  refine h.new hf hkd (.box v) (.pointer (some ⟨w.heap.size, 0, none⟩)) (bel_alloc _) (old_alloc _) ?_ ?_
  · intro b hb'
    cases hb'
    exact ⟨Nat.le_refl _, by simp⟩
  · intro ρ' m' ho hk hd _
    refine ⟨w.heap.size, cs, T, hd, by rw [hx]; exact heap_alloc_new w _, ?_, htg⟩
    exact hc.keep (fun b hlt _ => old_alloc _ b hlt) (by simp) ho (fun e he => hk e (fun x => by subst x; rw [hnd] at he; cases he))
theorem free_any (h : Sim cx s a w ρ) {d : Nat} (hf : s.free d = some s1) (x : Operand) : (Rf.ev s1 x).has d = false := by
  obtain ⟨_, _, _, hfr, _⟩ := h.free hf
  cases x with
  | tmp t => exact (hfr t).1
  | const v => cases v <;> try rfl
               case pointer p => cases p <;> rfl
               case slice p l c => cases p <;> simp only [Rf.ev, ofConst] <;> (try rfl) <;> (split <;> rfl)
  | global g => rfl
  | func f => rfl
theorem move_sound {x : Operand} (ho : o.op = .move x ∨ o.op = .assign x) (h : Sim cx s a w ρ) (hr : interp out J (evOp P C s o K) = some r) (hK : Owed cx a o.dst out J r K N) : Ran P B o a w N := by
  have hrun : ∀ w', Agree B w w' → (execOp a.eval o).run P w' = .ok (.value (a.eval x)) w' := by
    intro w' _
    unfold execOp
    rcases ho with ho | ho <;> rw [ho] <;> rfl
  have he := h.ev x
  have hr' : interp out J (match Rf.ev s x with
    | .nils => match o.dst, P.underlying o.type with
      | some d, some (.slice E) => match tyOf P 12 E, s.free (key d) with
        | some t, some s' => if 0 < t.size then K (.rs (key d)) { s' with mem := (key d, .row E t []) :: s'.mem } else .fail
        | _, _ => .fail
      | _, _ => .fail
    | v => K v s) = some r := by
    unfold evOp at hr
    rcases ho with ho | ho <;> rw [ho] at hr <;> exact hr
  by_cases hn : Rf.ev s x = .nils
  · rw [hn] at hr' he
    simp only at hr'
    split at hr'
    · rename_i d E hd hu
      split at hr'
      · rename_i t s2 ht hf
        split at hr'
        · rename_i hsz
          refine ran_pure hrun ?_
          rw [he.nils]
          refine hK _ _ _ (updH ρ (key d) (.slice none 0 0)) (.slice none 0 0) hr' ?_ ?_
          · refine h.new hf (key_le _) (.row E t []) (.slice none 0 0) (Bel.refl _ _) (fun _ _ => rfl) (fun b hb' => by cases hb') ?_
            intro ρ' m' _ _ hd' _
            exact ⟨hsz, [], ⟨by simp, .inl ⟨hd', rfl⟩⟩, rfl⟩
          · exact vr_rs upd_same (getM_cons _ _ _)
        · cases hr'
      · cases hr'
    · cases hr'
  · refine ran_pure hrun ?_
    refine hK (Rf.ev s x) s w ρ _ ?_ h he
    cases hv : Rf.ev s x <;> rw [hv] at hr' hn <;> first | exact hr' | exact (hn rfl).elim
theorem pick_sound {c x y : Operand} (ho : o.op = .pick c x y) (h : Sim cx s a w ρ) (hr : interp out J (evOp P C s o K) = some r) (hK : Owed cx a o.dst out J r K N) : Ran P B o a w N := by
  unfold evOp at hr
  rw [ho] at hr
  simp only at hr
  have hc := h.ev c
  have hx := h.ev x
  have hy := h.ev y
  cases hcv : Rf.ev s c <;> rw [hcv] at hr hc <;> try (cases hr; done)
  rename_i t
  have hct := hc.bool
  have hrun : ∀ w', Agree B w w' → (execOp a.eval o).run P w' = .ok (.value (if t then a.eval x else a.eval y)) w' := by
    intro w' _
    unfold execOp
    rw [ho]
    simp [hct, asBool]
  refine ran_pure hrun ?_
  simp only at hr
  split at hr
  · rename_i p q hp hq
    rw [hp] at hx
    rw [hq] at hy
    refine hK _ _ _ _ _ hr h ?_
    cases t
    · rw [hy.bool]; exact vr_bool _
    · rw [hx.bool]; exact vr_bool _
  · cases t
    · exact hK _ _ _ _ _ hr h hy
    · exact hK _ _ _ _ _ hr h hx
theorem eq_slice_nil {T E : TypeId} (hu : P.underlying T = some (.slice E)) (A : Option Addr) (n c : Nat) : (Op.equal T (.slice A n c) (.slice none 0 0)).run P w = .ok A.isNone w := by
  have key : ∀ d, (Op.equalIn (d + 1) T (.slice A n c) (.slice none 0 0)).run P w = .ok A.isNone w := fun d => by
    cases A <;> simp [Op.equalIn, run_underlying hu]
  exact key 9999
theorem eqGuard_slice (op : BinOp) (T : TypeId) (x y : Operand) (A B : Option Addr) (n c m d : Nat) : (eqGuard op T x y (.slice A n c) (.slice B m d)).run P w = .ok () w := by
  cases op <;> rfl
/-- A slice held against nil. -/
theorem nil_sound {op : BinOp} {T E : TypeId} {x y : Operand} {v : V} {xa : Value} {K : V → Tree} {R' : Prop} (hu : P.underlying T = some (.slice E)) (hr : interp out J (evNil s op v K) = some r)
    (hx : VR w (Own cx ρ s.mem) ρ s.mem v xa) (hgo : ∀ b : Bool, (∀ w', (eqGuard op T x y xa (.slice none 0 0)).run P w' = .ok () w' ∧ (binOp op T xa (.slice none 0 0)).run P w' = .ok (.bool b) w') → interp out J (K (.bool b)) = some r → R')
    (h : Sim cx s a w ρ) : R' := by
  unfold evNil at hr
  split at hr
  · rename_i c hop
    have hb : ∀ (A : Option Addr) (n k : Nat) (w' : World), (eqGuard op T x y (.slice A n k) (.slice none 0 0)).run P w' = .ok () w' ∧ (binOp op T (.slice A n k) (.slice none 0 0)).run P w' = .ok (.bool (if A.isNone then c else !c)) w' := by
      intro A n k w'
      refine ⟨eqGuard_slice .., ?_⟩
      cases op <;> simp only at hop <;> try (cases hop; done)
      all_goals (cases hop; cases A <;> simp [binOp, eq_slice_nil hu])
    have one : ∀ (A : Option Addr) (n k : Nat) (e : Bool), xa = .slice A n k → (e = false → A.isNone = false) → interp out J (evNil1 c e K) = some r → R' := by
      intro A n k e hxa he hr
      subst hxa
      unfold evNil1 at hr
      cases e with
      | false =>
        have h1 := he rfl
        refine hgo (!c) (fun w' => ?_) hr
        have := hb A n k w'
        rw [h1] at this
        exact this
      | true =>
        obtain ⟨h1, h2⟩ := both_some (show both _ _ = some r from hr)
        cases hA : A.isNone with
        | true =>
          refine hgo c (fun w' => ?_) h1
          have := hb A n k w'
          rw [hA] at this
          exact this
        | false =>
          refine hgo (!c) (fun w' => ?_) h2
          have := hb A n k w'
          rw [hA] at this
          exact this
    split at hr
    · rw [hx.nils] at hgo
      refine hgo c (fun w' => ?_) hr
      exact hb none 0 0 w'
    · rename_i E' t l
      obtain ⟨A, k, e, _, hc⟩ : DR w (Own cx ρ s.mem) (.sl E' t) l [xa] := hx
      injection e with e
      refine one A l.length k l.isEmpty e (fun hl => ?_) hr
      obtain ⟨b, off, _, e2, _⟩ := hc (by intro x; subst x; cases hl)
      rw [e2]; rfl
    · rename_i d
      split at hr
      · rename_i E' t l hm
        obtain ⟨e, _⟩ : FR w (Own cx ρ s.mem) ρ s.mem (.rs d) [xa] := hx
        injection e with e
        obtain ⟨_, _, _, hh⟩ := h.rows d E' t l hm
        rcases hh with ⟨h1, h2⟩ | ⟨b, cap, h1, _⟩
        · rw [h1] at e
          exact one none 0 0 l.isEmpty e (fun hl => by subst h2; cases hl) hr
        · rw [h1] at e
          exact one _ _ _ l.isEmpty e (fun _ => rfl) hr
      · cases hr
    · cases hr
  · cases hr
theorem isNilC_eq {y : Operand} (h : isNilC y = true) : y = .const .nilIface := by
  unfold isNilC at h
  split at h
  · rfl
  · cases h
/-- A value of an interface's type, held against the literal nil. -/
theorem ifc_eq {T : TypeId} {x y : Operand} {b : Bool} {z : Value} {ms : Array (String × TypeId)} (hc : isNilC y = true) (hz : IR b z) (hu : P.underlying T = some (.interface ms)) :
    (∀ w' : World, (∀ op, (eqGuard op T x y z (a.eval y)).run P w' = .ok () w') ∧ (binOp .eql T z (a.eval y)).run P w' = .ok (.bool (!b)) w' ∧ (binOp .neq T z (a.eval y)).run P w' = .ok (.bool b) w') := by
  intro w'
  rw [isNilC_eq hc]
  show (∀ op, (eqGuard op T x (.const .nilIface) z .nilIface).run P w' = .ok () w') ∧ (binOp .eql T z .nilIface).run P w' = .ok (.bool (!b)) w' ∧ (binOp .neq T z .nilIface).run P w' = .ok (.bool b) w'
  rcases hz with ⟨rfl, rfl⟩ | ⟨rfl, te, pe, rfl⟩
  · have h0 : ∀ d : Nat, (Op.equalIn (d + 1) T .nilIface .nilIface).run P w' = .ok true w' := fun d => by simp [Op.equalIn, run_underlying hu]
    have h1 : (Op.equal T .nilIface .nilIface).run P w' = .ok true w' := h0 9999
    refine ⟨fun op => by rw [eqGuard_nil_constR]; rfl, ?_, ?_⟩
    · simp only [binOp]; simp [h1]
    · simp only [binOp]; simp [h1]
  · have h0 : ∀ d : Nat, (Op.equalIn (d + 1) T (.iface te pe) .nilIface).run P w' = .ok false w' := fun d => by simp [Op.equalIn, run_underlying hu]
    have h1 : (Op.equal T (.iface te pe) .nilIface).run P w' = .ok false w' := h0 9999
    refine ⟨fun op => by rw [eqGuard_at_iface]; rfl, ?_, ?_⟩
    · simp only [binOp]; simp [h1]
    · simp only [binOp]; simp [h1]
theorem binOp_sound {op : BinOp} {T T' : TypeId} {x y : Operand} (ho : o.op = .binOp op T x y T') (h : Sim cx s a w ρ) (hr : interp out J (evOp P C s o K) = some r) (hK : Owed cx a o.dst out J r K N) : Ran P B o a w N := by
  unfold evOp at hr
  rw [ho] at hr
  simp only at hr
  have hx := h.ev x
  have hy := h.ev y
  have run : ∀ z, (∀ w', Agree B w w' → (eqGuard op T x y (a.eval x) (a.eval y)).run P w' = .ok () w') → (∀ w', Agree B w w' → (binOp op T (a.eval x) (a.eval y)).run P w' = .ok z w') →
      ∀ w', Agree B w w' → (execOp a.eval o).run P w' = .ok (.value z) w' := by
    intro z h1 h2 w' hw
    have h1 := h1 w' hw
    have h2 := h2 w' hw
    unfold execOp
    rw [ho]
    simp [h1, h2]
  split at hr
  · rename_i E hvy hu
    rw [hvy] at hy
    rw [hy.nils] at run
    exact nil_sound hu hr hx (fun z h1 hz => ran_pure (run _ (fun w' _ => (h1 w').1) (fun w' _ => (h1 w').2)) (hK _ _ _ _ _ hz h (vr_bool _))) h
  · rename_i b0 ms hvy hu
    split at hr
    · rename_i b hc hvx
      rw [hvx] at hx
      have g := ifc_eq (x := x) (a := a) hc hx.ifc hu
      exact ran_pure (run (.bool (!b)) (fun w' _ => (g w').1 .eql) (fun w' _ => (g w').2.1)) (hK _ _ _ _ _ hr h (vr_bool _))
    · rename_i b hc hvx
      rw [hvx] at hx
      have g := ifc_eq (x := x) (a := a) hc hx.ifc hu
      exact ran_pure (run (.bool b) (fun w' _ => (g w').1 .neq) (fun w' _ => (g w').2.2)) (hK _ _ _ _ _ hr h (vr_bool _))
    · cases hr
  generalize hvx : Rf.ev s x = vx at hr hx
  generalize hvy : Rf.ev s y = vy at hr hy
  unfold evBin at hr
  split at hr
  · rename_i k m k' n
    rw [hx.int, hy.int] at run
    cases hs : isShift op with
    | true =>
      rw [hs] at hr
      obtain ⟨v, z, h1, h2, h3⟩ := shOp_sound (P := P) (w := w) (ρ := ρ) (T := T) (k' := k') hs hr
      exact ran_pure (run z (fun _ _ => eqGuard_int ..) (fun w' _ => h2 w')) (hK _ _ _ _ _ h1 h (h3 _ _))
    | false =>
      rw [hs] at hr
      simp only at hr
      split at hr
      · rename_i hk
        have hk' : k = k' := by simpa using hk
        subst hk'
        obtain ⟨v, z, h1, h2, h3⟩ := intOp_sound (P := P) (w := w) (ρ := ρ) (T := T) hs hr
        exact ran_pure (run z (fun _ _ => eqGuard_int ..) (fun w' _ => h2 w')) (hK _ _ _ _ _ h1 h (h3 _ _))
      · cases hr
  · rename_i m n
    rw [hx.str, hy.str] at run
    obtain ⟨v, z, h1, h2, h3⟩ := strOp_sound (P := P) (w := w) (ρ := ρ) (T := T) hr
    exact ran_pure (run z (fun _ _ => eqGuard_str ..) (fun w' _ => h2 w')) (hK _ _ _ _ _ h1 h (h3 _ _))
  · rename_i m n
    rw [hx.bool, hy.bool] at run
    split at hr
    · rename_i hu
      refine ran_pure (run (.bool (m == n)) (fun _ _ => eqGuard_bool ..) (fun w' _ => ?_)) (hK _ _ _ _ _ hr h (vr_bool _))
      simp [binOp, eq_bool hu]
    · rename_i hu
      refine ran_pure (run (.bool (!(m == n))) (fun _ _ => eqGuard_bool ..) (fun w' _ => ?_)) (hK _ _ _ _ _ hr h (vr_bool _))
      simp [binOp, eq_bool hu]
    · cases hr
  · rw [hx.nilp, hy.nilp] at run
    split at hr
    · rename_i hu
      refine ran_pure (run (.bool true) (fun _ _ => eqGuard_ptr ..) (fun w' _ => ?_)) (hK _ _ _ _ _ hr h (vr_bool _))
      simp [binOp, eq_nils hu]
    · rename_i hu
      refine ran_pure (run (.bool false) (fun _ _ => eqGuard_ptr ..) (fun w' _ => ?_)) (hK _ _ _ _ _ hr h (vr_bool _))
      simp [binOp, eq_nils hu]
    · cases hr
  · rename_i d p
    obtain ⟨b, off, v, _, _, _, e⟩ : FR w (Own cx ρ s.mem) ρ s.mem (.ptr d p) [a.eval x] := hx
    injection e with e
    rw [e, hy.nilp] at run
    split at hr
    · rename_i hu
      refine ran_pure (run (.bool false) (fun _ _ => eqGuard_ptr ..) (fun w' _ => ?_)) (hK _ _ _ _ _ hr h (vr_bool _))
      simp [binOp, eq_ptr_nil _ hu]
    · rename_i hu
      refine ran_pure (run (.bool true) (fun _ _ => eqGuard_ptr ..) (fun w' _ => ?_)) (hK _ _ _ _ _ hr h (vr_bool _))
      simp [binOp, eq_ptr_nil _ hu]
    · cases hr
  · split at hr
    · rename_i b hb
      split at hr
      · have hh := evEq_sound (P := P) (w := w) (op := .eql) (p := x) (q := y) hb hx hy
        exact ran_pure (run (.bool b) (fun w' _ => (hh w').1) (fun w' _ => (hh w').2.1)) (hK _ _ _ _ _ hr h (vr_bool _))
      · have hh := evEq_sound (P := P) (w := w) (op := .neq) (p := x) (q := y) hb hx hy
        exact ran_pure (run (.bool (!b)) (fun w' _ => (hh w').1) (fun w' _ => (hh w').2.2)) (hK _ _ _ _ _ hr h (vr_bool _))
      · cases hr
    · cases hr
theorem unOp_sound {op : UnOp} {T : TypeId} {x : Operand} (ho : o.op = .unOp op T x) (h : Sim cx s a w ρ) (hr : interp out J (evOp P C s o K) = some r) (hK : Owed cx a o.dst out J r K N) : Ran P B o a w N := by
  unfold evOp at hr
  rw [ho] at hr
  simp only at hr
  have hx := h.ev x
  have run : ∀ z, (∀ w', (Op.unary op (a.eval x)).run P w' = .ok z w') → ∀ w', Agree B w w' → (execOp a.eval o).run P w' = .ok (.value z) w' := by
    intro z h1 w' _
    have h1 := h1 w'
    unfold execOp
    rw [ho]
    simp [h1]
  split at hr
  · rename_i b hv
    rw [hv] at hx
    rw [hx.bool] at run
    exact ran_pure (run _ fun _ => rfl) (hK _ _ _ _ _ hr h (vr_bool _))
  · rename_i k n hv
    rw [hv] at hx
    rw [hx.int] at run
    exact ran_pure (run _ fun _ => rfl) (hK _ _ _ _ _ hr h (vr_int _ _))
  · rename_i k n hv
    rw [hv] at hx
    rw [hx.int] at run
    exact ran_pure (run _ fun _ => rfl) (hK _ _ _ _ _ hr h (vr_int _ _))
  · cases hr
end
end Go.Rf
