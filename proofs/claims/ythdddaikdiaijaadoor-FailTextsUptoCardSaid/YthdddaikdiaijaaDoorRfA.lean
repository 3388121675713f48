/- A small evaluator of Go's loaded code over symbolic values (definitions alone): run, its trees, interp. -/
import Derived.Calls
import Derived.Below
namespace Go.Rf
/-! ### data types, and what they read as -/
inductive Ty where
  | int (k : IntKind) | bool | str | unit
  | pair (a b : Ty) | agg (t : Ty) | arr (n : Nat) (t : Ty) | sl (E : TypeId) (t : Ty)
  /-- One value alone: no pointer; a function of the program. -/
  | nilp | fn (f : FuncId)
  /-- A value of an interface's type: is there one? -/
  | ifc
  deriving DecidableEq
@[reducible] def Ty.den : Ty → Type
  | .int _ => Int | .bool => Bool | .str => ByteArray | .unit => Unit | .nilp => Unit | .fn _ => Unit | .ifc => Bool
  | .pair a b => a.den × b.den | .agg t => t.den | .arr _ t => List t.den | .sl _ t => List t.den
def Ty.size : Ty → Nat
  | .int _ | .bool | .str | .sl _ _ | .nilp | .fn _ | .ifc => 1
  | .unit => 0
  | .pair a b => a.size + b.size | .agg t => t.size | .arr n t => n * t.size
def dflt : (t : Ty) → t.den
  | .int _ => (0 : Int) | .bool => false | .str => ByteArray.empty | .unit => () | .nilp => () | .fn _ => () | .ifc => false
  | .pair a b => (dflt a, dflt b) | .agg t => dflt t | .arr n t => List.replicate n (dflt t) | .sl _ _ => []
def Ty.isAgg : Ty → Bool
  | .agg _ | .arr _ _ => true
  | _ => false
/-- Does a value of this type lead to memory? -/
def Ty.refs : Ty → Bool
  | .sl _ _ => true
  | .pair a b => a.refs || b.refs | .agg t => t.refs | .arr _ t => t.refs
  | _ => false
inductive PS where
  | fld (j : Nat) | idx (i : Int)
/-! ### equality of data, and maps as lists of pairs -/
def eqL {α : Type} (eq : α → α → Bool) : List α → List α → Bool
  | [], [] => true
  | x :: xs, y :: ys => eq x y && eqL eq xs ys
  | _, _ => false
/-- '==' of data. -/
def eqD : (t : Ty) → t.den → t.den → Bool
  | .int _, a, b => a == b | .bool, a, b => a == b | .str, a, b => a == b | .unit, _, _ => true
  | .pair a b, x, y => eqD a x.1 y.1 && eqD b x.2 y.2 | .agg t, x, y => eqD t x y
  | .arr _ t, l, l' => eqL (eqD t) l l'
  | _, _, _ => false
def mget {α β : Type} (eq : α → α → Bool) (k : α) : List (α × β) → Option β
  | [] => none
  | p :: l => match eq k p.1 with | true => some p.2 | false => mget eq k l
def mput {α β : Type} (eq : α → α → Bool) (k : α) (v : β) : List (α × β) → List (α × β)
  | [] => [(k, v)]
  | p :: l => match eq k p.1 with | true => (k, v) :: l | false => p :: mput eq k v l
def mdel {α β : Type} (eq : α → α → Bool) (k : α) : List (α × β) → List (α × β)
  | [] => []
  | p :: l => match eq k p.1 with | true => l | false => p :: mdel eq k l
/-! ### symbolic values -/
inductive V where
  | any | undef | dead | nils | nilp
  | fn (f : FuncId)
  | ifc (b : Bool)
  | mp (d : Nat)
  | int (k : IntKind) (n : Int) | bool (b : Bool) | str (s : ByteArray)
  | unit | pair (a b : V) | agg (v : V)
  | arr (n : Nat) (t : Ty) (l : List t.den)
  | sl (E : TypeId) (t : Ty) (l : List t.den)
  | rs (d : Nat)
  | ptr (d : Nat) (p : List PS)
  | eptr (d : Nat) (i : Int) (p : List PS)
  /-- An address of what is nobody's own and read alone; with a number: a slice of so many cells. -/
  | sptr (k : Option Nat) (u : V)
  | tup (v : V)
inductive Obj where
  | box (v : V)
  | row (E : TypeId) (t : Ty) (l : List t.den)
  | map (K E : TypeId) (k t : Ty) (l : List (k.den × t.den))
abbrev Mem := List (Nat × Obj)
def getM : Mem → Nat → Option Obj
  | [], _ => none
  | (d, o) :: m, e => if d = e then some o else getM m e
def setM : Mem → Nat → Obj → Mem
  | [], _, _ => []
  | (d, o) :: m, e, o' => if d = e then (d, o') :: m else (d, o) :: setM m e o'
def delM : Mem → Nat → Mem
  | [], _ => []
  | (d, o) :: m, e => if d = e then delM m e else (d, o) :: delM m e
def enc : (t : Ty) → t.den → V
  | .int k, n => .int k n | .bool, b => .bool b | .str, s => .str s | .unit, _ => .unit
  | .pair a b, x => .pair (enc a x.1) (enc b x.2) | .agg t, x => .agg (enc t x)
  | .arr n t, l => .arr n t l | .sl E t, l => .sl E t l
  | .nilp, _ => .nilp | .fn f, _ => .fn f | .ifc, b => .ifc b
/-- What a symbolic value reads as; a row of the call's own is read where it lies. -/
def dec (m : Mem) : (t : Ty) → V → Option t.den
  | .int k, .int k' n => if k = k' then some n else none
  | .bool, .bool b => some b
  | .str, .str s => some s
  | .unit, .unit => some ()
  | .pair a b, .pair u v => (dec m a u).bind fun x => (dec m b v).bind fun y => some (x, y)
  | .agg t, .agg v => dec m t v
  | .arr n t, .arr n' t' l => if h : n = n' ∧ t' = t then some (h.2 ▸ l) else none
  | .sl E t, .sl E' t' l => if h : E = E' ∧ t' = t then some (h.2 ▸ l) else none
  | .sl _ _, .nils => some []
  | .nilp, .nilp => some ()
  | .fn f, .fn g => if f = g then some () else none
  | .ifc, .ifc b => some b
  | .sl E t, .rs d => match getM m d with
    | some (.row E' t' l) => if h : E = E' ∧ t' = t then some (h.2 ▸ l) else none
    | _ => none
  | _, _ => none
def V.isAgg : V → Bool
  | .agg _ | .arr _ _ _ => true
  | _ => false
/-- A value of one cell. -/
def V.one : V → Bool
  | .dead | .int _ _ | .bool _ | .str _ | .nils | .nilp | .sl _ _ _ | .rs _ | .ptr _ _ | .eptr _ _ _ | .sptr _ _ | .fn _ | .ifc _ | .mp _ => true
  | _ => false
def V.size : V → Nat
  | .unit => 0 | .pair a b => a.size + b.size | .agg v => v.size | .arr n t _ => n * t.size
  | _ => 1
/-- The type that a value is marked with, behind its last field: a list of no functions, which takes no cell. -/
def V.tail : V → Option TypeId
  | .pair _ b => b.tail
  | .arr n (.fn T) _ => if n = 0 then some T else none
  | _ => none
def V.tag : V → Option TypeId
  | .agg c => c.tail
  | _ => none
def V.addTail (T : TypeId) : V → V
  | .pair a b => .pair a (b.addTail T)
  | v => .pair v (.arr 0 (.fn T) [])
/-- Does the value name this key? -/
def V.has (d : Nat) : V → Bool
  | .rs e | .ptr e _ | .eptr e _ _ | .mp e => d == e
  | .pair a b => a.has d || b.has d
  | .agg v | .tup v | .sptr _ v => v.has d
  | _ => false
def V.hasE (d : Nat) : V → Bool
  | .ptr e _ | .eptr e _ _ | .mp e => d == e
  | .pair a b => a.hasE d || b.hasE d
  | .agg v | .tup v | .sptr _ v => v.hasE d
  | _ => false
/-- What named this key is one cell of which nothing is known. -/
def V.killIn (d : Nat) : V → V
  | .rs e => if d = e then .dead else .rs e
  | .mp e => if d = e then .dead else .mp e
  | .ptr e p => if d = e then .dead else .ptr e p
  | .eptr e i p => if d = e then .dead else .eptr e i p
  | .sptr k u => if u.has d then .dead else .sptr k u
  | .pair a b => .pair (a.killIn d) (b.killIn d)
  | .agg v => .agg (v.killIn d)
  | v => v
/-- A row that is written no more: who held it holds what it reads as. -/
def V.frz (d : Nat) (E : TypeId) (t : Ty) (l : List t.den) : V → V
  | .rs e => if d = e then .sl E t l else .rs e
  | .pair a b => .pair (a.frz d E t l) (b.frz d E t l)
  | .agg v => .agg (v.frz d E t l)
  | .tup v => .tup (v.frz d E t l)
  | .sptr k v => .sptr k (v.frz d E t l)
  | v => v
def nth : V → Nat → Option V
  | .pair a _, 0 => some a
  | .pair _ b, j + 1 => nth b j
  | .unit, _ => none
  | v, 0 => some v
  | _, _ + 1 => none
def setNth : V → Nat → V → Option V
  | .pair _ b, 0, x => some (.pair x b)
  | .pair a b, j + 1, x => (setNth b j x).map (.pair a)
  | .unit, _, _ => none
  | _, 0, x => some x
  | _, _ + 1, _ => none
/-- The same shape: as many cells, at the same places. -/
def same : V → V → Bool
  | .pair a b, .pair c d => same a c && same b d
  | .agg a, .agg b => same a b
  | .unit, .unit => true
  | .arr n t _, .arr n' t' _ => decide (n = n') && decide (t = t')
  | a, b => a.one && b.one
def getP : V → List PS → Option V
  | v, [] => some v
  | .agg v, .fld j :: p => (nth v j).bind fun u => getP u p
  | .arr _ t l, .idx i :: p => getP (enc t (l.getD i.toNat (dflt t))) p
  | _, _ => none
def setP (m : Mem) : V → List PS → V → Option V
  | v, [], x => if same v x then some x else none
  | .agg v, .fld j :: p, x => (nth v j).bind fun u => (setP m u p x).bind fun u' => (setNth v j u').map .agg
  | .arr n t l, .idx i :: p, x =>
    (setP m (enc t (l.getD i.toNat (dflt t))) p x).bind fun u' => (dec m t u').map fun y => .arr n t (l.set i.toNat y)
  | _, _, _ => none
/-! ### the frame: a tree over the slots' numbers -/
inductive Fr where
  | lf (v : V) | nd (l r : Fr)
def Fr.get : Fr → Nat → V
  | .lf v, n => match n with | 0 => v | _ + 1 => .any
  | .nd l r, n => match n % 2 with | 0 => l.get (n / 2) | _ + 1 => r.get (n / 2)
def Fr.set : Fr → Nat → V → Fr
  | .lf v0, n, v => match n with | 0 => .lf v | _ + 1 => .lf v0
  | .nd l r, n, v => match n % 2 with | 0 => .nd (l.set (n / 2) v) r | _ + 1 => .nd l (r.set (n / 2) v)
def Fr.mk : Nat → Fr
  | 0 => .lf .any
  | d + 1 => .nd (Fr.mk d) (Fr.mk d)
def Fr.map (f : V → V) : Fr → Fr
  | .lf v => .lf (f v)
  | .nd l r => .nd (l.map f) (r.map f)
structure St where
  n : Nat
  fr : Fr
  mem : Mem
def St.put (s : St) (d : Option Nat) (v : V) : St :=
  match d with
  | some d => { s with fr := s.fr.set d (if d < s.n then v else .any) }
  | none => s
def V.kill (d : Nat) (v : V) : V := if v.has d then .any else v
def boxesHave (d : Nat) : Mem → Bool
  | [] => false
  | (_, .box v) :: m => v.has d || boxesHave d m
  | _ :: m => boxesHave d m
def killM (d : Nat) : Mem → Mem
  | [] => []
  | (e, .box v) :: m => (e, .box (v.killIn d)) :: killM d m
  | x :: m => x :: killM d m
/-- A key is made free for something new. -/
def St.free (s : St) (d : Nat) : Option St :=
  match getM s.mem d with
  | none => some s
  | some _ => let m := delM s.mem d; if boxesHave d m then none else some { s with fr := s.fr.map (V.kill d), mem := m }
def boxesHaveE (d : Nat) : Mem → Bool
  | [] => false
  | (_, .box v) :: m => v.hasE d || boxesHaveE d m
  | _ :: m => boxesHaveE d m
def frzM (d : Nat) (E : TypeId) (t : Ty) (l : List t.den) : Mem → Mem
  | [] => []
  | (e, .box v) :: m => (e, .box (v.frz d E t l)) :: frzM d E t l m
  | x :: m => x :: frzM d E t l m
def St.freeze (s : St) (d : Nat) : Option St :=
  match getM s.mem d with
  | some (.row E t l) =>
    let m := delM s.mem d
    if boxesHaveE d m then none
    else some { s with fr := s.fr.map fun v => if v.hasE d then .any else v.frz d E t l, mem := frzM d E t l m }
  | _ => none
def rowKeys : V → List Nat
  | .rs d => [d]
  | .pair a b => rowKeys a ++ rowKeys b
  | .agg v => rowKeys v
  | .tup v => rowKeys v
  | _ => []
def St.freezeAll (s : St) : List Nat → Option St
  | [] => some s
  | d :: ds => match getM s.mem d with
    | some (.row _ _ _) => (s.freeze d).bind fun s' => s'.freezeAll ds
    | _ => s.freezeAll ds
/-! ### types off the program's table -/
def tys (f : TypeId → Option Ty) : List TypeId → Option Ty
  | [] => some .unit
  | [T] => f T
  | T :: U :: Ts => (f T).bind fun a => (tys f (U :: Ts)).map fun b => .pair a b
def tyOf (P : Program) : Nat → TypeId → Option Ty
  | 0, _ => none
  | n + 1, T =>
    match P.underlying T with
    | some (.int k) => some (.int k)
    | some .bool => some .bool
    | some .string => some .str
    | some (.slice E) => (tyOf P n E).map (.sl E)
    | some (.array m E) => (tyOf P n E).map (.arr m)
    | some (.struct fs) => (tys (tyOf P n) (fs.toList.map (·.type))).map .agg
    | _ => none
/-- As tyOf; a pointer is read as nil. -/
def tyZ (P : Program) : Nat → TypeId → Option Ty
  | 0, _ => none
  | n + 1, T =>
    match P.underlying T with
    | some (.int k) => some (.int k)
    | some .bool => some .bool
    | some .string => some .str
    | some (.slice E) => (tyOf P n E).map (.sl E)
    | some (.array m E) => (tyZ P n E).map (.arr m)
    | some (.struct fs) => (tys (tyZ P n) (fs.toList.map (·.type))).map .agg
    | some (.pointer _) | some (.map _ _) => some .nilp
    | some (.interface _) => some .ifc
    | _ => none
theorem tys_of {f g : TypeId → Option Ty} (h : ∀ T t, f T = some t → g T = some t) : ∀ (l : List TypeId) (t : Ty), tys f l = some t → tys g l = some t
  | [], _, e => e
  | [T], t, e => h T t e
  | T :: U :: Ts, t, e => by
    simp only [tys] at e ⊢
    cases hT : f T with
    | none => rw [hT] at e; cases e
    | some a =>
      rw [hT] at e
      rw [h T a hT]
      simp only [Option.bind_some] at e ⊢
      cases hU : tys f (U :: Ts) with
      | none => rw [hU] at e; cases e
      | some b =>
        rw [hU] at e
        rw [tys_of h (U :: Ts) b hU]
        exact e
theorem tyZ_of {P : Program} : ∀ (n : Nat) (T : TypeId) (t : Ty), tyOf P n T = some t → tyZ P n T = some t
  | 0, _, _, e => by cases e
  | n + 1, T, t, e => by
    unfold tyOf at e
    unfold tyZ
    split at e
    · rename_i hu; rw [hu]; exact e
    · rename_i hu; rw [hu]; exact e
    · rename_i hu; rw [hu]; exact e
    · rename_i hu; rw [hu]; exact e
    · rename_i m E hu
      rw [hu]
      cases hE : tyOf P n E with
      | none => rw [hE] at e; cases e
      | some a => rw [hE] at e; simp only [tyZ_of n E a hE]; exact e
    · rename_i fs hu
      rw [hu]
      cases hE : tys (tyOf P n) (fs.toList.map (·.type)) with
      | none => rw [hE] at e; cases e
      | some a => rw [hE] at e; simp only [tys_of (tyZ_of n) _ a hE]; exact e
    · cases e
def isAggT (P : Program) (T : TypeId) : Bool :=
  match P.underlying T with
  | some (.struct _) | some (.array _ _) => true
  | _ => false
def parseN {α : Type} (p : List Value → Option (α × List Value)) : Nat → List Value → Option (List α × List Value)
  | 0, r => some ([], r)
  | n + 1, r => (p r).bind fun x => (parseN p n x.2).map fun z => (x.1 :: z.1, z.2)
def one1 (f : Value → Option V) : List Value → Option (V × List Value)
  | [] => none
  | c :: r => (f c).map fun v => (v, r)
/-- The first cells of a value of this type, read as a symbolic value; what is left. -/
def parse : Ty → List Value → Option (V × List Value)
  | .int k, r => one1 (fun | .int k' n => if k = k' then some (.int k n) else none | _ => none) r
  | .bool, r => one1 (fun | .bool b => some (.bool b) | _ => none) r
  | .str, r => one1 (fun | .string s => some (.str s) | _ => none) r
  | .unit, r => some (.unit, r)
  | .nilp, r => one1 (fun | .pointer none => some .nilp | .map none => some .dead | _ => none) r
  | .fn _, _ => none
  | .ifc, r => one1 (fun | .nilIface => some (.ifc false) | _ => none) r
  | .pair a b, r => (parse a r).bind fun x => (parse b x.2).bind fun y => some (.pair x.1 y.1, y.2)
  | .agg t, r => (parse t r).map fun x => (.agg x.1, x.2)
  | .sl _ _, r => one1 (fun | .slice none l c => if l = 0 ∧ c = 0 then some .nils else none | _ => none) r
  | .arr n t, r => (parseN (fun r => (parse t r).bind fun x => (dec [] t x.1).map fun y => (y, x.2)) n r).map fun x => (.arr n t x.1, x.2)
/-- The zero value of a type. -/
def zeroV (P : Program) (T : TypeId) : Option V :=
  match tyZ P 12 T, P.info? T with
  | some t, some i => match i.zero with
    | some z => match parse t z.cells.toList with
      | some (v, []) => if i.size = t.size ∧ v.tag = none then some v else none
      | _ => none
    | none => none
  | _, _ => none
/-- A type whose first field points to such a one: its variables are marked with it. -/
def selfT (P : Program) (T : TypeId) : Bool :=
  match P.underlying T with
  | some (.struct fs) => match fs.toList with
    | f :: _ => match P.underlying f.type with
      | some (.pointer E) => E == T
      | _ => false
    | [] => false
  | _ => false
def tagZ (P : Program) (T : TypeId) : V → V
  | .agg c => if selfT P T = true then .agg (c.addTail T) else .agg c
  | v => v
/-! ### trees -/
inductive Tree : Type 1 where
  | done (vs : List V) (m : Mem)
  | cut (i : Nat) (todo : List Item) (s : St)
  | br (b : Bool) (x y : Tree)
  | ask {α : Type} (o : Option α) (k : α → Tree)
  | alt {α β : Type} (o : α ⊕ β) (k : α → Tree) (k' : β → Tree)
  /-- Either of two, nobody knows which: they tell the same. -/
  | both (x y : Tree)
  | fail
open Classical in
noncomputable def both {α : Type} (a b : Option α) : Option α := if a = b then a else none
theorem both_self {α : Type} (a : Option α) : both a a = a := if_pos rfl
theorem both_some {α : Type} {a b : Option α} {r : α} (h : both a b = some r) : a = some r ∧ b = some r := by
  unfold both at h
  split at h
  · rename_i e; exact ⟨h, e ▸ h⟩
  · cases h
noncomputable def interp {ρ : Type} (out : List V → Mem → Option ρ) (J : Nat → St → Option ρ) : Tree → Option ρ
  | .done vs m => out vs m
  | .cut i _ s => J i s
  | .br b x y => @Bool.rec (fun _ => Option ρ) (interp out J y) (interp out J x) b
  | .ask o k => o.bind fun a => interp out J (k a)
  | .both x y => both (interp out J x) (interp out J y)
  | .alt o k k' => @Sum.rec _ _ (fun _ => Option ρ) (fun a => interp out J (k a)) (fun b => interp out J (k' b)) o
  | .fail => none
/-! ### what functions are known to tell -/
@[reducible] def dens : List Ty → Type
  | [] => Unit
  | [t] => t.den
  | t :: u :: ts => t.den × dens (u :: ts)
def decs (m : Mem) : (ts : List Ty) → List V → Option (dens ts)
  | [], [] => some ()
  | [t], [v] => dec m t v
  | t :: u :: ts, v :: vs => (dec m t v).bind fun x => (decs m (u :: ts) vs).bind fun y => some (x, y)
  | _, _ => none
def encs : (ts : List Ty) → dens ts → List V
  | [], _ => []
  | [t], x => [enc t x]
  | t :: u :: ts, x => enc t x.1 :: encs (u :: ts) x.2
def chain : List V → V
  | [] => .unit
  | v :: vs => .pair v (chain vs)
def nthC : V → Nat → Option V
  | .pair a _, 0 => some a
  | .pair _ b, j + 1 => nthC b j
  | _, _ => none
/-- One value, or a tuple of several (or of none). -/
def wrapRes : List V → V
  | [v] => v
  | vs => .tup (chain vs)
structure Entry where
  id : FuncId
  ps : List Ty
  rt : List Ty
  f : dens ps → Option (dens rt)
/-- The entry of a function that takes these arguments. -/
def findE (m : Mem) (vs : List V) : List Entry → Nat → Option ((e : Entry) × dens e.ps)
  | [], _ => none
  | e :: es, k => if e.id = k then
      match decs m e.ps vs with
      | some a => some ⟨e, a⟩
      | none => findE m vs es k
    else findE m vs es k
/-! ### functions that hold values -/
/-- A function with what it holds: its number, how many values stand ahead of a call's own. -/
def isClo : V → Option (FuncId × Int)
  | .pair .undef (.pair (.fn f) (.pair (.int _ n) _)) => some (f, n)
  | _ => none
def unchain : V → List V
  | .pair a b => a :: unchain b
  | _ => []
/-- What it holds. -/
def caps : V → List V
  | .pair _ (.pair _ (.pair _ q)) => unchain q
  | _ => []
def V.notTup : V → Bool
  | .tup _ => false
  | _ => true
/-! ### operations -/
def ofConst : Value → V
  | .int k n => .int k n | .bool b => .bool b | .string s => .str s
  | .slice none l c => if l = 0 ∧ c = 0 then .nils else .any
  | .pointer none => .nilp
  | .nilIface => .ifc false
  | _ => .any
def isNilC : Operand → Bool
  | .const .nilIface => true
  | _ => false
def ev (s : St) : Operand → V
  | .tmp t => s.fr.get t
  | .const v => ofConst v
  | .func f => .fn f
  | _ => .any
/-- '==' of values of whole numbers, bools, strings and structs of such. -/
def eqV : V → V → Option Bool
  | .int k a, .int k' b => if k = k' then some (a == b) else none
  | .bool a, .bool b => some (a == b)
  | .str a, .str b => some (a == b)
  | .unit, .unit => some true
  | .pair a b, .pair c d => (eqV a c).bind fun x => (eqV b d).map fun y => x && y
  | .agg a, .agg b => eqV a b
  | _, _ => none
def intOp (op : BinOp) (k : IntKind) (a b : Int) (K : V → Tree) : Tree :=
  match op with
  | .add => K (.int k (k.wrap (a + b)))
  | .sub => K (.int k (k.wrap (a - b)))
  | .mul => K (.int k (k.wrap (a * b)))
  | .quo => .br (decide (b = 0)) .fail (K (.int k (k.wrap (a.tdiv b))))
  | .rem => .br (decide (b = 0)) .fail (K (.int k (a.tmod b)))
  | .and => K (.int k (k.wrap (BitVec.ofInt k.bits a &&& BitVec.ofInt k.bits b).toNat))
  | .or => K (.int k (k.wrap (BitVec.ofInt k.bits a ||| BitVec.ofInt k.bits b).toNat))
  | .xor => K (.int k (k.wrap (BitVec.ofInt k.bits a ^^^ BitVec.ofInt k.bits b).toNat))
  | .andNot => K (.int k (k.wrap (BitVec.ofInt k.bits a &&& ~~~BitVec.ofInt k.bits b).toNat))
  | .eql => K (.bool (a == b))
  | .neq => K (.bool (a != b))
  | .lss => K (.bool (decide (a < b)))
  | .leq => K (.bool (decide (a ≤ b)))
  | .gtr => K (.bool (decide (a > b)))
  | .geq => K (.bool (decide (a ≥ b)))
  | _ => .fail
def shOp (op : BinOp) (k : IntKind) (a b : Int) (K : V → Tree) : Tree :=
  .br (decide (b < 0)) .fail <|
    match op with
    | .shl => K (.int k (k.wrap (a * 2 ^ (min b.toNat k.bits))))
    | .shr => K (.int k (a.fdiv (2 ^ (min b.toNat k.bits))))
    | _ => .fail
def strOp (op : BinOp) (a b : ByteArray) (K : V → Tree) : Tree :=
  match op with
  | .add => .br (decide (((a.size + b.size : Nat) : Int) > IntKind.i64.max)) .fail (K (.str (a ++ b)))
  | .eql => K (.bool (a.toList == b.toList))
  | .neq => K (.bool (!(a.toList == b.toList)))
  | .lss => K (.bool (Op.bytesLess a.toList b.toList))
  | .leq => K (.bool (Op.bytesLess a.toList b.toList || a.toList == b.toList))
  | .gtr => K (.bool (!(Op.bytesLess a.toList b.toList || a.toList == b.toList)))
  | .geq => K (.bool (!(Op.bytesLess a.toList b.toList)))
  | _ => .fail
def isShift : BinOp → Bool
  | .shl | .shr => true
  | _ => false
/-- The type's values are held against one another part by part. -/
def offs (P : Program) : Nat → List Field → Nat → Bool
  | a, [], e => a == e
  | a, f :: fs, e => f.offset == a && offs P (a + P.cellsOf f.type) fs e
def eqOK (P : Program) : Nat → TypeId → Bool
  | 0, _ => false
  | n + 1, T =>
    match P.underlying T with
    | some (.int _) | some .bool | some .string => decide (P.cellsOf T = 1)
    | some (.array m E) => eqOK P n E && decide (P.cellsOf T = m * P.cellsOf E)
    | some (.struct fs) => (fs.toList.all fun f => eqOK P n f.type && f.name != "_") && offs P 0 fs.toList (P.cellsOf T) && !P.stoodInHeld T
    | _ => false
def evEq (P : Program) (T : TypeId) (x y : V) : Option Bool :=
  match x.isAgg && y.isAgg && eqOK P 12 T && !P.eqGuardType P.depth T, tyOf P 12 T with
  | true, some t => (dec [] t x).bind fun a => (dec [] t y).map fun b => eqD t a b
  | _, _ => none
def evBin (P : Program) (T : TypeId) (op : BinOp) (x y : V) (K : V → Tree) : Tree :=
  match x, y with
  | .int k a, .int k' b => match isShift op with
    | true => shOp op k a b K
    | false => match decide (k = k') with
      | true => intOp op k a b K
      | false => .fail
  | .str a, .str b => strOp op a b K
  | .bool a, .bool b => match P.underlying T, op with
    | some .bool, .eql => K (.bool (a == b))
    | some .bool, .neq => K (.bool (!(a == b)))
    | _, _ => .fail
  | .nilp, .nilp => match P.underlying T, op with
    | some (.pointer _), .eql => K (.bool true)
    | some (.pointer _), .neq => K (.bool false)
    | _, _ => .fail
  | .ptr _ _, .nilp => match P.underlying T, op with
    | some (.pointer _), .eql => K (.bool false)
    | some (.pointer _), .neq => K (.bool true)
    | _, _ => .fail
  | _, _ => match evEq P T x y with
    | some b => match op with
      | .eql => K (.bool b)
      | .neq => K (.bool (!b))
      | _ => .fail
    | none => .fail
end Go.Rf
