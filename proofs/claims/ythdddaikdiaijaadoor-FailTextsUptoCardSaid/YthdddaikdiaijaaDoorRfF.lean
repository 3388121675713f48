/- Each operation on numbers, bools, strings and frames: what the evaluator tells is what the machine does. -/
import Derived.Test.YthdddaikdiaijaaDoorRfE
import Derived.Laws.Slices
import Derived.Laws.Strings
import Derived.Laws.CopyRow
import Derived.Laws.Cells
namespace Go.Rf
open Go.RowKit (Below)
section
variable {P : Program} {cx : Cx} {s s' : St} {a : Act} {w w' : World} {ρ ρ' : Nat → Value} {R : Type} {out : List V → Mem → Option R} {J : Nat → St → Option R} {r : R}
theorem br_true {b : Bool} {x y : Tree} (h : interp out J (.br b x y) = some r) (hy : ∀ z, interp out J y ≠ some z) : b = true ∧ interp out J x = some r := by
  cases b with
  | true => exact ⟨rfl, h⟩
  | false => exact (hy _ h).elim
theorem br_false {b : Bool} {x y : Tree} (h : interp out J (.br b x y) = some r) (hx : ∀ z, interp out J x ≠ some z) : b = false ∧ interp out J y = some r := by
  cases b with
  | false => exact ⟨rfl, h⟩
  | true => exact (hx _ h).elim
theorem no_fail : ∀ z, interp out J .fail ≠ some z := fun _ h => by cases h
theorem ofConst_sound (own : Nat → Prop) (m : Mem) (v : Value) : VR w own ρ m (ofConst v) v := by
  cases v <;> try exact trivial
  case bool b => exact (rfl : [Value.bool b] = _)
  case int k n => exact (rfl : [Value.int k n] = _)
  case string b => exact (rfl : [Value.string b] = _)
  case nilIface => exact (⟨_, rfl, .inl ⟨rfl, rfl⟩⟩ : ∃ x, [Value.nilIface] = [x] ∧ IR false x)
  case pointer x => cases x with
    | none => exact (rfl : [Value.pointer none] = _)
    | some _ => trivial
  case slice x l c => cases x with
    | some _ => trivial
    | none =>
      simp only [ofConst]
      split
      · rename_i h; obtain ⟨rfl, rfl⟩ := h; exact (rfl : [Value.slice none 0 0] = _)
      · trivial
theorem Sim.ev (h : Sim cx s a w ρ) (x : Operand) : VR w (Own cx ρ s.mem) ρ s.mem (Rf.ev s x) (a.eval x) := by
  cases x with
  | tmp t => exact h.fr t
  | const v => exact ofConst_sound _ _ v
  | global g => trivial
  | func f => trivial
theorem VR.int {own : Nat → Prop} {m : Mem} {k : IntKind} {n : Int} {x : Value} (h : VR w own ρ m (.int k n) x) : x = .int k n := by
  have : [x] = [Value.int k n] := h
  injection this
theorem VR.bool {own : Nat → Prop} {m : Mem} {b : Bool} {x : Value} (h : VR w own ρ m (.bool b) x) : x = .bool b := by
  have : [x] = [Value.bool b] := h
  injection this
theorem VR.str {own : Nat → Prop} {m : Mem} {b : ByteArray} {x : Value} (h : VR w own ρ m (.str b) x) : x = .string b := by
  have : [x] = [Value.string b] := h
  injection this
theorem VR.nilp {own : Nat → Prop} {m : Mem} {x : Value} (h : VR w own ρ m .nilp x) : x = .pointer none := by
  have : [x] = [Value.pointer none] := h
  injection this
theorem VR.ifc {own : Nat → Prop} {m : Mem} {b : Bool} {x : Value} (h : VR w own ρ m (.ifc b) x) : IR b x := by
  obtain ⟨y, e, h⟩ : ∃ y, [x] = [y] ∧ IR b y := h
  injection e with e
  rw [e]; exact h
theorem VR.nils {own : Nat → Prop} {m : Mem} {x : Value} (h : VR w own ρ m .nils x) : x = .slice none 0 0 := by
  have : [x] = [Value.slice none 0 0] := h
  injection this
theorem vr_int {own : Nat → Prop} {m : Mem} (k : IntKind) (n : Int) : VR w own ρ m (.int k n) (.int k n) := (rfl : [Value.int k n] = _)
theorem vr_bool {own : Nat → Prop} {m : Mem} (b : Bool) : VR w own ρ m (.bool b) (.bool b) := (rfl : [Value.bool b] = _)
theorem vr_str {own : Nat → Prop} {m : Mem} (b : ByteArray) : VR w own ρ m (.str b) (.string b) := (rfl : [Value.string b] = _)
/-- What an operation that only computes owes. -/
theorem wp_pure {o : Oper} {N : Act → World → Prop} {Q : Exit → Act → World → Prop} {x : Value} (hrun : (execOp a.eval o).run P w = .ok (.value x) w') (h : N (a.put o.dst x) w') : o.wp P a w N Q := by
  unfold Oper.wp
  rw [hrun]
  exact h
/-- But in some blocks the worlds agree. -/
structure Agree (B : Nat → Prop) (w w' : World) : Prop where
  size : w.heap.size ≤ w'.heap.size
  block : ∀ k, k < w.heap.size → ¬ B k → w'.heap[k]? = w.heap[k]?
theorem Agree.refl (B : Nat → Prop) (w : World) : Agree B w w := ⟨Nat.le_refl _, fun _ _ _ => rfl⟩
theorem Agree.trans {B : Nat → Prop} {a b c : World} (h : Agree B a b) (k : Agree B b c) : Agree B a c :=
  ⟨Nat.le_trans h.size k.size, fun i hi hn => (k.block i (Nat.lt_of_lt_of_le hi h.size) hn).trans (h.block i hi hn)⟩
theorem Agree.below {B : Nat → Prop} (h : Below w.heap.size w w') : Agree B w w' := ⟨h.size, fun k hk _ => h.block k hk⟩
/-- What an operation that only reads does. -/
def Ran (P : Program) (B : Nat → Prop) (o : Oper) (a : Act) (w : World) (N : Act → World → Prop) : Prop :=
  ∃ x, (∀ w', Agree B w w' → (execOp a.eval o).run P w' = .ok (.value x) w') ∧ N (a.put o.dst x) w
theorem ran_pure {B : Nat → Prop} {o : Oper} {N : Act → World → Prop} {x : Value} (hrun : ∀ w', Agree B w w' → (execOp a.eval o).run P w' = .ok (.value x) w') (h : N (a.put o.dst x) w) : Ran P B o a w N := ⟨x, hrun, h⟩
theorem Ran.wp {B : Nat → Prop} {o : Oper} {N : Act → World → Prop} {Q : Exit → Act → World → Prop} (h : Ran P B o a w N) : o.wp P a w N Q := by
  obtain ⟨x, h1, h2⟩ := h
  exact wp_pure (h1 w (Agree.refl _ w)) h2
/-- Cells that were stay where they were. -/
theorem Cells.later {B : Nat → Prop} {b off : Nat} {cs : List Value} (h : Cells w b off cs) (hw : Agree B w w') (hn : ¬ B b) : Cells w' b off cs := by
  intro j u hj
  have h1 := h j u hj
  have hlt : b < w.heap.size := by
    unfold World.cell? at h1
    cases hb : w.heap[b]? with
    | none => simp [hb] at h1
    | some o => exact (Array.getElem?_eq_some_iff.1 hb).1
  unfold World.cell? at h1 ⊢
  simp only at h1 ⊢
  rw [hw.block b hlt hn]
  exact h1
theorem wp_skipped {o : Oper} {N : Act → World → Prop} {Q : Exit → Act → World → Prop} (hrun : (execOp a.eval o).run P w = .ok .skip w') (h : N (a.put o.dst undef) w') : o.wp P a w N Q := by
  unfold Oper.wp
  rw [hrun]
  exact h
theorem eqGuard_int (op : BinOp) (T : TypeId) (x y : Operand) (k k' : IntKind) (m n : Int) : (eqGuard op T x y (.int k m) (.int k' n)).run P w = .ok () w := by
  cases op <;> rfl
theorem eqGuard_str (op : BinOp) (T : TypeId) (x y : Operand) (m n : ByteArray) : (eqGuard op T x y (.string m) (.string n)).run P w = .ok () w := by
  cases op <;> rfl
theorem eqGuard_bool (op : BinOp) (T : TypeId) (x y : Operand) (m n : Bool) : (eqGuard op T x y (.bool m) (.bool n)).run P w = .ok () w := by
  cases op <;> rfl
theorem eqGuard_ptr (op : BinOp) (T : TypeId) (x y : Operand) (m n : Option Addr) : (eqGuard op T x y (.pointer m) (.pointer n)).run P w = .ok () w := by
  cases op <;> rfl
/-- A number behind an operation on two numbers. -/
theorem intOp_sound {op : BinOp} {T : TypeId} {k : IntKind} {m n : Int} {K : V → Tree} (hs : isShift op = false) (hr : interp out J (intOp op k m n K) = some r) :
    ∃ v x, interp out J (K v) = some r ∧ (∀ w, (binOp op T (.int k m) (.int k n)).run P w = .ok x w) ∧ ∀ own mm, VR w own ρ mm v x := by
  cases op <;> simp only [isShift] at hs <;> try (cases hs; done)
  case quo =>
    obtain ⟨h0, hr⟩ := br_false hr no_fail
    have h0' : ¬ n = 0 := by simpa using h0
    exact ⟨_, _, hr, fun w => by simp [binOp, Op.intDiv, h0'], fun _ _ => vr_int _ _⟩
  case rem =>
    obtain ⟨h0, hr⟩ := br_false hr no_fail
    have h0' : ¬ n = 0 := by simpa using h0
    exact ⟨_, _, hr, fun w => by simp [binOp, Op.intDiv, h0'], fun _ _ => vr_int _ _⟩
  case eql => exact ⟨_, _, hr, fun w => by simp [binOp, Op.intCmp], fun _ _ => vr_bool _⟩
  case neq => exact ⟨_, _, hr, fun w => by simp [binOp, Op.intCmp], fun _ _ => vr_bool _⟩
  case lss => exact ⟨_, _, hr, fun w => by simp [binOp, Op.intCmp], fun _ _ => vr_bool _⟩
  case leq => exact ⟨_, _, hr, fun w => by simp [binOp, Op.intCmp], fun _ _ => vr_bool _⟩
  case gtr => exact ⟨_, _, hr, fun w => by simp [binOp, Op.intCmp], fun _ _ => vr_bool _⟩
  case geq => exact ⟨_, _, hr, fun w => by simp [binOp, Op.intCmp], fun _ _ => vr_bool _⟩
  case add => exact ⟨_, _, hr, fun w => by simp [binOp, Op.intArith], fun _ _ => vr_int _ _⟩
  case sub => exact ⟨_, _, hr, fun w => by simp [binOp, Op.intArith], fun _ _ => vr_int _ _⟩
  case mul => exact ⟨_, _, hr, fun w => by simp [binOp, Op.intArith], fun _ _ => vr_int _ _⟩
  case and => exact ⟨_, _, hr, fun w => by simp [binOp, Op.intBits], fun _ _ => vr_int _ _⟩
  case or => exact ⟨_, _, hr, fun w => by simp [binOp, Op.intBits], fun _ _ => vr_int _ _⟩
  case xor => exact ⟨_, _, hr, fun w => by simp [binOp, Op.intBits], fun _ _ => vr_int _ _⟩
  case andNot => exact ⟨_, _, hr, fun w => by simp [binOp, Op.intBits], fun _ _ => vr_int _ _⟩
theorem shOp_sound {op : BinOp} {T : TypeId} {k k' : IntKind} {m n : Int} {K : V → Tree} (hs : isShift op = true) (hr : interp out J (shOp op k m n K) = some r) :
    ∃ v x, interp out J (K v) = some r ∧ (∀ w, (binOp op T (.int k m) (.int k' n)).run P w = .ok x w) ∧ ∀ own mm, VR w own ρ mm v x := by
  obtain ⟨h0, hr⟩ := br_false hr no_fail
  have h0' : ¬ n < 0 := by simpa using h0
  cases op <;> simp only [isShift] at hs <;> try (cases hs; done)
  case shl => exact ⟨_, _, hr, fun w => by simp [binOp, Op.shift, h0'], fun _ _ => vr_int _ _⟩
  case shr => exact ⟨_, _, hr, fun w => by simp [binOp, Op.shift, h0'], fun _ _ => vr_int _ _⟩
theorem strOp_sound {op : BinOp} {T : TypeId} {m n : ByteArray} {K : V → Tree} (hr : interp out J (strOp op m n K) = some r) :
    ∃ v x, interp out J (K v) = some r ∧ (∀ w, (binOp op T (.string m) (.string n)).run P w = .ok x w) ∧ ∀ own mm, VR w own ρ mm v x := by
  cases op <;> simp only [strOp] at hr <;> try (cases hr; done)
  case add =>
    obtain ⟨h0, hr⟩ := br_false hr no_fail
    have h0' : ¬ (((m.size + n.size : Nat) : Int) > IntKind.i64.max) := of_decide_eq_false h0
    refine ⟨_, .string (m ++ n), hr, ?_, fun _ _ => vr_str _⟩
    intro w
    show (Op.stringOp .add m n).run P w = _
    unfold Op.stringOp
    simp only [h0', if_false]
    rfl
  case eql => exact ⟨_, _, hr, fun _ => rfl, fun _ _ => vr_bool _⟩
  case neq => exact ⟨_, _, hr, fun _ => rfl, fun _ _ => vr_bool _⟩
  case lss => exact ⟨_, _, hr, fun _ => rfl, fun _ _ => vr_bool _⟩
  case leq => exact ⟨_, _, hr, fun _ => rfl, fun _ _ => vr_bool _⟩
  case gtr => exact ⟨_, _, hr, fun _ => rfl, fun _ _ => vr_bool _⟩
  case geq => exact ⟨_, _, hr, fun _ => rfl, fun _ _ => vr_bool _⟩
end
end Go.Rf
