/- The evaluator: operations, regions, code (definitions alone). -/
import Derived.Test.YthdddaikdiaijaaDoorRfA
import Derived.OrdersHeld
namespace Go.Rf
/-! ### the states at cuts -/
inductive Sh where
  | val (t : Ty) | rs (d : Nat) | ptr (d : Nat) (p : List Nat) | pair (a b : Sh) | agg (a : Sh) | nilp | mp (d : Nat) | dead
  /-- A slice of so many cells, that is read alone. -/
  | lit (n : Nat) (a : Sh)
@[reducible] def Sh.den : Sh → Type
  | .val t => t.den
  | .pair a b => a.den × b.den
  | .agg a => a.den
  | .lit _ a => a.den
  | _ => Unit
def flds : List PS → List Nat → Bool
  | [], [] => true
  | .fld i :: p, j :: q => i == j && flds p q
  | _, _ => false
def Sh.enc : (h : Sh) → h.den → V
  | .val t, x => Rf.enc t x
  | .rs d, _ => .rs d
  | .ptr d p, _ => .ptr d (p.map .fld)
  | .pair a b, x => .pair (a.enc x.1) (b.enc x.2)
  | .agg a, x => .agg (a.enc x)
  | .nilp, _ => .nilp
  | .mp d, _ => .mp d
  | .dead, _ => .dead
  | .lit n a, x => .sptr (some n) (a.enc x)
def Sh.dec (m : Mem) : (h : Sh) → V → Option h.den
  | .val t, v => Rf.dec [] t v
  | .rs d, .rs e => if d = e then some () else none
  | .rs d, .nils => match getM m d with | none => some () | some _ => none
  | .ptr d p, .ptr e q => if d = e ∧ flds q p = true then some () else none
  | .pair a b, .pair u v => (a.dec m u).bind fun x => (b.dec m v).bind fun y => some (x, y)
  | .agg a, .agg u => a.dec m u
  | .nilp, .nilp => some ()
  | .dead, .dead => some ()
  | .mp d, .mp e => if d = e then some () else none
  | .lit n a, .sptr k u => if k = some n then a.dec m u else none
  | _, _ => none
inductive OSh where
  | box (h : Sh) | row (E : TypeId) (t : Ty) | map (K E : TypeId) (k t : Ty)
@[reducible] def OSh.den : OSh → Type
  | .box h => h.den
  | .row _ t => List t.den
  | .map _ _ k t => List (k.den × t.den)
structure Shape where
  n : Nat
  depth : Nat
  slots : List (Nat × Sh)
  mem : List (Nat × OSh)
@[reducible] def slotsDen : List (Nat × Sh) → Type
  | [] => Unit
  | [(_, h)] => h.den
  | (_, h) :: x :: r => h.den × slotsDen (x :: r)
@[reducible] def memDen : List (Nat × OSh) → Type
  | [] => Unit
  | (_, o) :: r => o.den × memDen r
def encSlots : (l : List (Nat × Sh)) → slotsDen l → Fr → Fr
  | [], _, f => f
  | [(d, h)], x, f => f.set d (h.enc x)
  | (d, h) :: y :: r, x, f => (encSlots (y :: r) x.2 f).set d (h.enc x.1)
def encMem : (l : List (Nat × OSh)) → memDen l → Mem
  | [], _ => []
  | (d, .box h) :: r, x => (d, .box (h.enc x.1)) :: encMem r x.2
  | (d, .row E t) :: r, x => (d, .row E t x.1) :: encMem r x.2
  | (d, .map K E k t) :: r, x => (d, .map K E k t x.1) :: encMem r x.2
def encSt (h : Shape) (x : slotsDen h.slots) (y : memDen h.mem) : St := ⟨h.n, encSlots h.slots x (Fr.mk h.depth), encMem h.mem y⟩
def decSlots (s : St) : (l : List (Nat × Sh)) → Option (slotsDen l)
  | [] => some ()
  | [(d, h)] => h.dec s.mem (s.fr.get d)
  | (d, h) :: y :: r => (h.dec s.mem (s.fr.get d)).bind fun a => (decSlots s (y :: r)).bind fun b => some (a, b)
def decMem (m : Mem) : (l : List (Nat × OSh)) → Option (memDen l)
  | [] => some ()
  | (d, .box h) :: r => match getM m d with
    | some (.box v) => (h.dec m v).bind fun a => (decMem m r).bind fun b => some (a, b)
    | _ => none
  | (d, .row E t) :: r => match getM m d with
    | some (.row E' t' l) => if e : E = E' ∧ t' = t then (decMem m r).bind fun b => some (e.2 ▸ l, b) else none
    | none => (decMem m r).bind fun b => some ([], b)
    | _ => none
  | (d, .map K E k t) :: r => match getM m d with
    | some (.map K' E' k' t' l) => if e : (K = K' ∧ E = E') ∧ k' = k ∧ t' = t then (decMem m r).bind fun b => some (e.2.1 ▸ e.2.2 ▸ l, b) else none
    | _ => none
/-! ### other names for keys -/
def sw (d e k : Nat) : Nat := if k = d then e else if k = e then d else k
def V.ren (d e : Nat) : V → V
  | .rs k => .rs (sw d e k)
  | .mp k => .mp (sw d e k)
  | .ptr k p => .ptr (sw d e k) p
  | .eptr k i p => .eptr (sw d e k) i p
  | .pair a b => .pair (a.ren d e) (b.ren d e)
  | .agg v => .agg (v.ren d e)
  | .tup v => .tup (v.ren d e)
  | .sptr k v => .sptr k (v.ren d e)
  | v => v
def Obj.ren (d e : Nat) : Obj → Obj
  | .box v => .box (v.ren d e)
  | o => o
def renM (d e : Nat) : Mem → Mem
  | [] => []
  | (k, o) :: m => (sw d e k, o.ren d e) :: renM d e m
def St.ren (s : St) (d e : Nat) : St := { s with fr := s.fr.map (V.ren d e), mem := renM d e s.mem }
/-- A key that a value has under another name than the shape says; keys below lo keep theirs. -/
def mis1 (lo d k : Nat) : Option (Nat × Nat) := if d = k then none else if lo ≤ d ∧ lo ≤ k then some (d, k) else none
def mis (lo : Nat) : Sh → V → Option (Nat × Nat)
  | .rs d, .rs k => mis1 lo d k
  | .mp d, .mp k => mis1 lo d k
  | .ptr d _, .ptr k _ => mis1 lo d k
  | .pair a b, .pair u v => match mis lo a u with | some x => some x | none => mis lo b v
  | .agg a, .agg u => mis lo a u
  | .lit _ a, .sptr _ u => mis lo a u
  | _, _ => none
def swapsFor (lo : Nat) (h : Sh) (get : St → V) : Nat → St → List (Nat × Nat)
  | 0, _ => []
  | n + 1, s => match mis lo h (get s) with
    | none => []
    | some (d, k) => (d, k) :: swapsFor lo h get n (s.ren d k)
def St.rens (s : St) : List (Nat × Nat) → St
  | [] => s
  | (d, e) :: r => (s.ren d e).rens r
def back (l : List (Nat × Nat)) (k : Nat) : Nat := l.foldr (fun p k => sw p.1 p.2 k) k
def fwd (l : List (Nat × Nat)) (k : Nat) : Nat := l.foldl (fun k p => sw p.1 p.2 k) k
def swaps (lo : Nat) : List (Nat × Sh) → St → List (Nat × Nat)
  | [], _ => []
  | (t, h) :: r, s => swapsFor lo h (fun s => s.fr.get t) 12 s ++ swaps lo r (s.rens (swapsFor lo h (fun s => s.fr.get t) 12 s))
def boxV (m : Mem) (d : Nat) : V := match getM m d with
  | some (.box v) => v
  | _ => .any
def swapsM (lo : Nat) : List (Nat × OSh) → St → List (Nat × Nat)
  | [], _ => []
  | (d, .box h) :: r, s => swapsFor lo h (fun s => boxV s.mem d) 12 s ++ swapsM lo r (s.rens (swapsFor lo h (fun s => boxV s.mem d) 12 s))
  | _ :: r, s => swapsM lo r s
/-- The names that a shape has for a state's keys. -/
def allSwaps (lo : Nat) (h : Shape) (s : St) : List (Nat × Nat) :=
  swaps lo h.slots s ++ (swapsM lo h.mem (s.rens (swaps lo h.slots s)) ++ swapsM lo h.mem ((s.rens (swaps lo h.slots s)).rens (swapsM lo h.mem (s.rens (swaps lo h.slots s)))))
/-- The state's own data, where it has the shape of a cut. -/
def decSt0 {ρ : Type} (h : Shape) (s : St) (K : slotsDen h.slots → memDen h.mem → Option ρ) : Option ρ :=
  if s.n = h.n then (decSlots s h.slots).bind fun x => (decMem s.mem h.mem).bind fun y => K x y else none
def decSt {ρ : Type} (lo : Nat) (h : Shape) (s : St) (K : slotsDen h.slots → memDen h.mem → Option ρ) : Option ρ := decSt0 h (s.rens (allSwaps lo h s)) K
/-- The state at a call's begin. -/
def start (n depth : Nat) (args : List V) : St := ⟨n, (args.zipIdx.foldl (fun f x => f.set x.2 x.1) (Fr.mk depth)), []⟩
/-! ### functions that are handed objects -/
/-- How a function may end: one of these shapes. -/
@[reducible] def OutD : List Shape → Type
  | [] => Empty
  | [h] => slotsDen h.slots × memDen h.mem
  | h :: g :: r => (slotsDen h.slots × memDen h.mem) ⊕ OutD (g :: r)
/-- A function that is handed objects, and hands them back. -/
structure OE where
  id : FuncId
  inp : Shape
  outs : List Shape
  f : slotsDen inp.slots → memDen inp.mem → Option (OutD outs)
  /-- Rows that are handed in and keep their handles (none of these is one of what comes back under another name). -/
  keep : List Nat := []
structure Tab where
  es : List Entry
  os : List OE
/-- Without the functions that are handed objects. -/
def Tab.pureT (C : Tab) : Tab := ⟨C.es, []⟩
/-- The keys that a value names. -/
def V.keys : V → List Nat
  | .rs d | .mp d | .ptr d _ | .eptr d _ _ => [d]
  | .pair a b => a.keys ++ b.keys
  | .agg v | .tup v | .sptr _ v => v.keys
  | _ => []
/-- The keys that are come to. -/
def reachK (m : Mem) : Nat → List Nat → List Nat → List Nat
  | 0, _, seen => seen
  | _ + 1, [], seen => seen
  | n + 1, d :: r, seen => match seen.contains d with
    | true => reachK m n r seen
    | false => reachK m n ((match getM m d with | some (.box v) => v.keys | _ => []) ++ r) (d :: seen)
/-- A key is laid aside, and all that names it. -/
def St.lay (s : St) (d : Nat) : St := { s with fr := s.fr.map (V.kill d), mem := delM (killM d s.mem) d }
def St.layAll (s : St) : List Nat → St
  | [] => s
  | d :: ds => (s.lay d).layAll ds
/-- Of these keys a value names pointers and maps alone. -/
def V.pure (D R : List Nat) : V → Bool
  | .rs d => !D.contains d || R.contains d
  | .eptr d _ _ => !D.contains d
  | .ptr d p => !D.contains d || p.isEmpty
  | .pair a b => a.pure D R && b.pure D R
  | .agg v | .tup v | .sptr _ v => v.pure D R
  | _ => true
def boxesPure (D R : List Nat) : Mem → Bool
  | [] => true
  | (_, .box v) :: m => v.pure D R && boxesPure D R m
  | _ :: m => boxesPure D R m
def dropM (D : List Nat) : Mem → Mem
  | [] => []
  | (d, o) :: m => match D.contains d with
    | true => dropM D m
    | false => (d, o) :: dropM D m
def fixV (D R : List Nat) (v : V) : V := match v.pure D R with
  | true => v
  | false => .any
/-- Other names. -/
def V.rn (f : Nat → Nat) : V → V
  | .rs k => .rs (f k)
  | .mp k => .mp (f k)
  | .ptr k p => .ptr (f k) p
  | .eptr k i p => .eptr (f k) i p
  | .pair a b => .pair (a.rn f) (b.rn f)
  | .agg v => .agg (v.rn f)
  | .tup v => .tup (v.rn f)
  | .sptr k v => .sptr k (v.rn f)
  | v => v
def Obj.rn (f : Nat → Nat) : Obj → Obj
  | .box v => .box (v.rn f)
  | o => o
def relM (f : Nat → Nat) : Mem → Mem
  | [] => []
  | (k, o) :: m => (f k, o.rn f) :: relM f m
def freshM : Mem → Nat
  | [] => 1000
  | (k, _) :: m => max (k + 1) (freshM m)
def OSh.isRow : OSh → Bool
  | .row _ _ => true
  | _ => false
/-- A variable or a map that is handed in. -/
def pinned (l : List (Nat × OSh)) (d : Nat) : Bool := l.any fun x => x.1 == d && !x.2.isRow
def inpHas (l : List (Nat × OSh)) (d : Nat) : Bool := l.any fun x => x.1 == d
/-- The start of a call. -/
def callD (s : St) (vs : List V) : List Nat := reachK s.mem 200 (vs.flatMap V.keys) []
def callP (s : St) (D : List Nat) : St := s.layAll ((s.mem.map (·.1)).filter fun k => !(D.contains k))
def callS (h : Shape) (sP : St) (vs : List V) : St := { start h.n h.depth vs with mem := sP.mem }
def nmF (inp : List (Nat × OSh)) (D : List Nat) (l : List (Nat × Nat)) (N : Nat) (d : Nat) : Nat := match inpHas inp d && D.contains (back l d) with
  | true => back l d
  | false => N + d
def nmG (l : List (Nat × Nat)) (N : Nat) (k : Nat) : Nat := if N ≤ k then k - N else fwd l k
def pinOK (inp : List (Nat × OSh)) (l : List (Nat × Nat)) (N : Nat) (mR : Mem) (k : Nat) : Bool :=
  pinned inp (nmG l N k) && back l (nmG l N k) == k && (getM mR (nmG l N k)).isSome
def sameKind : Obj → Option Obj → Bool
  | .row _ _ _, _ => true
  | .box _, some (.box _) => true
  | .map K E k t _, some (.map K' E' k' t' _) => decide (K = K' ∧ E = E') && decide (k = k' ∧ t = t')
  | _, _ => false
def Obj.isRow : Obj → Bool
  | .row _ _ _ => true
  | _ => false
def sameRow : Option Obj → Option Obj → Bool
  | some (.row E t _), some (.row E' t' _) => decide (E = E') && decide (t = t')
  | _, _ => false
/-- Rows whose handles the caller still holds. -/
def keptR (s : St) (keep : List Nat) (inp : List (Nat × OSh)) (D : List Nat) (l : List (Nat × Nat)) (mR om : Mem) : List Nat :=
  D.filter fun d => keep.contains (nmG l (freshM s.mem) d) && back l (nmG l (freshM s.mem) d) == d && (getM mR (nmG l (freshM s.mem) d)).isSome && sameRow (getM s.mem d) (getM (relM (nmF inp D l (freshM s.mem)) om) d)
def outOK (inp : List (Nat × OSh)) (keep : List Nat) (D : List Nat) (l : List (Nat × Nat)) (s : St) (mR om : Mem) : Bool :=
  (om.all fun x => nmG l (freshM s.mem) (nmF inp D l (freshM s.mem) x.1) == x.1 &&
    (match D.contains (nmF inp D l (freshM s.mem) x.1) with
    | true => (getM s.mem (nmF inp D l (freshM s.mem) x.1)).isSome && (decide (1000 ≤ nmF inp D l (freshM s.mem) x.1) || pinOK inp l (freshM s.mem) mR (nmF inp D l (freshM s.mem) x.1))
    | false => decide (freshM s.mem ≤ nmF inp D l (freshM s.mem) x.1))) &&
  (D.all fun d => match getM s.mem d with
    | none => true
    | some o => sameKind o (getM (relM (nmF inp D l (freshM s.mem)) om) d) && (o.isRow || pinOK inp l (freshM s.mem) mR d)) &&
  boxesPure D (keptR s keep inp D l mR om) (dropM D s.mem)
def evOut1 (s : St) (inp : List (Nat × OSh)) (keep : List Nat) (D : List Nat) (l : List (Nat × Nat)) (mR : Mem) (n : Nat) (o : St) (K : V → St → Tree) : Tree :=
  match outOK inp keep D l s mR o.mem && (List.range n).all fun i => (match o.fr.get i with | .tup _ => false | .undef => false | _ => true) with
  | true => K (wrapRes ((List.range n).map fun i => (o.fr.get i).rn (nmF inp D l (freshM s.mem)))) { s with fr := s.fr.map (fixV D (keptR s keep inp D l mR o.mem)), mem := relM (nmF inp D l (freshM s.mem)) o.mem ++ dropM D s.mem }
  | false => .fail
def evOut (s : St) (inp : List (Nat × OSh)) (keep : List Nat) (D : List Nat) (l : List (Nat × Nat)) (mR : Mem) : (hs : List Shape) → OutD hs → (V → St → Tree) → Tree
  | [], _, _ => .fail
  | [h], z, K => evOut1 s inp keep D l mR h.n (encSt h z.1 z.2) K
  | h :: g :: r, z, K => .alt z (fun p => evOut1 s inp keep D l mR h.n (encSt h p.1 p.2) K) (fun q => evOut s inp keep D l mR (g :: r) q K)
/-- No value of it leads to memory that is not the call's own. -/
def Sh.clean : Sh → Bool
  | .val t => !t.refs
  | .pair a b => a.clean && b.clean
  | .agg a => a.clean
  | .lit _ _ => false
  | _ => true
def OSh.clean : OSh → Bool
  | .box h => h.clean
  | .row _ t => !t.refs
  | .map _ _ k t => !k.refs && !t.refs
def Shape.clean (h : Shape) : Bool := (h.slots.all fun x => x.2.clean) && h.mem.all fun x => x.2.clean
/-- Where nothing that comes back leads to what was handed in as data, that is the caller's own still. -/
def behindCall (s sF : St) (hs : List Shape) : St := match hs.all Shape.clean with
  | true => s
  | false => sF
/-- What names one of these rows is one cell of which nothing is known. -/
def V.dim (D : List Nat) : V → V
  | .rs e => if D.contains e then .dead else .rs e
  | .eptr e i p => if D.contains e then .dead else .eptr e i p
  | .ptr e p => if D.contains e && !p.isEmpty then .dead else .ptr e p
  | .pair a b => .pair (a.dim D) (b.dim D)
  | .agg v => .agg (v.dim D)
  | .sptr k u => if u.pure D [] then .sptr k u else .dead
  | v => v
def dimM (D : List Nat) : Mem → Mem
  | [] => []
  | (k, .box v) :: m => (k, .box (match D.contains k with | true => v | false => v.dim D)) :: dimM D m
  | x :: m => x :: dimM D m
/-- Rows that are handed over and keep no handle: the caller's own variables name them no more. -/
def dimIf (keep D : List Nat) (s : St) : St := match keep with
  | [] => { s with mem := dimM D s.mem }
  | _ => s
/-- s: the caller's state; sF: the same, rows that are handed over as data frozen. -/
def evCallO (s sF : St) (f : FuncId) (xs : List Operand) (K : V → St → Tree) (alt : Tree) : List OE → Tree
  | [] => alt
  | e :: es => match decide (e.id = f ∧ xs.length ≤ e.inp.n), decSt 0 e.inp (callS e.inp (callP sF (callD sF (xs.map (ev sF)))) (xs.map (ev (callP sF (callD sF (xs.map (ev sF))))))) (fun x y => some (x, y)) with
    | true, some p => .ask (e.f p.1 p.2) fun z => evOut (dimIf e.keep (callD sF (xs.map (ev sF))) (behindCall s sF e.outs)) e.inp.mem e.keep (callD sF (xs.map (ev sF))) (allSwaps 0 e.inp (callS e.inp (callP sF (callD sF (xs.map (ev sF)))) (xs.map (ev (callP sF (callD sF (xs.map (ev sF)))))))) 
        ((callS e.inp (callP sF (callD sF (xs.map (ev sF)))) (xs.map (ev (callP sF (callD sF (xs.map (ev sF))))))).rens (allSwaps 0 e.inp (callS e.inp (callP sF (callD sF (xs.map (ev sF)))) (xs.map (ev (callP sF (callD sF (xs.map (ev sF))))))))).mem e.outs z K
    | _, _ => evCallO s sF f xs K alt es
def key (d : Nat) : Nat := 1000 + d
def szOK (P : Program) (T : TypeId) (v : V) : Bool :=
  match P.info? T with
  | some i => decide (i.size = v.size)
  | none => false
/-- A load or a store of this type is of this value's form. -/
def fits (P : Program) (T : TypeId) (v : V) : Bool := szOK P T v && (isAggT P T == v.isAgg) && (v.isAgg || v.one) && (P.underlying T).isSome
def offN : V → Nat → Nat
  | .pair _ _, 0 => 0
  | .pair a b, j + 1 => a.size + offN b j
  | _, _ => 0
def fieldOK (P : Program) (S : TypeId) (j : Nat) (c : V) : Bool :=
  match P.underlying S with
  | some (.struct fs) => match fs[j]? with
    | some f => match P.info? f.type with
      | some i => decide (f.offset = offN c j) && decide (i.size ≠ 0)
      | none => false
    | none => false
  | _ => false
def fieldType (P : Program) (S : TypeId) (j : Nat) : TypeId :=
  match P.underlying S with
  | some (.struct fs) => match fs[j]? with
    | some f => f.type
    | none => 0
  | _ => 0
def elemSize (P : Program) (T : TypeId) : Option Nat :=
  match P.underlying T with
  | some (.slice E) => (P.info? E).map (·.size)
  | _ => none
def mkBytes (l : List Int) : ByteArray := ⟨(l.map fun n => UInt8.ofNat n.toNat).toArray⟩
def byteAt (s : ByteArray) (i : Int) : Int := (s.data.toList.getD i.toNat 0).toNat
/-- What an address leads to. -/
def deref (s : St) : V → Option V
  | .ptr d p => match getM s.mem d with
    | some (.box v) => getP v p
    | _ => none
  | .eptr d i p => match getM s.mem d with
    | some (.row _ t l) => getP (enc t (l.getD i.toNat (dflt t))) p
    | _ => none
  | .sptr k u => match k with
    | none => some u
    | some _ => none
  | _ => none
def stepV (q : PS) (u : V) : V → V
  | .ptr d p => .ptr d (p ++ [q])
  | .eptr d i p => .eptr d i (p ++ [q])
  | .sptr _ _ => .sptr none u
  | _ => .any
def storeTo (s : St) (a x : V) : Option St :=
  match a with
  | .ptr d p => match getM s.mem d with
    | some (.box v) => (setP [] v p x).map fun v' => { s with mem := setM s.mem d (.box v') }
    | _ => none
  | .eptr d i p => match getM s.mem d with
    | some (.row E t l) =>
      (setP [] (enc t (l.getD i.toNat (dflt t))) p x).bind fun u => (dec [] t u).map fun y => { s with mem := setM s.mem d (.row E t (l.set i.toNat y)) }
    | _ => none
  | _ => none
def intOf? : V → Option Int
  | .int _ n => some n
  | _ => none
def fieldsOK (P : Program) (S : TypeId) : Bool :=
  match P.underlying S with
  | some (.struct fs) => fs.toList.all fun f => (P.info? f.type).isSome
  | _ => false
def fillF (P : Program) (T : TypeId) (s : St) : List (Nat × Operand) → V → Option V
  | [], z => some z
  | (j, x) :: ps, z => match nth z j with
    | some u => if fieldOK P T j z && szOK P (fieldType P T j) u && same u (ev s x) then (setNth z j (ev s x)).bind (fillF P T s ps) else none
    | none => none
def fillL (m : Mem) (t : Ty) (s : St) : List (Nat × Operand) → List t.den → Option (List t.den)
  | [], l => some l
  | (j, x) :: ps, l => if j < l.length then (dec m t (ev s x)).bind fun y => fillL m t s ps (l.set j y) else none
def keysOf (s : St) (xs : List Operand) : List Nat := xs.flatMap fun x => rowKeys (ev s x)
def lenV (s : St) : V → Option Int
  | .mp d => match getM s.mem d with
    | some (.map _ _ _ _ l) => some l.length
    | _ => none
  | .str b => some b.size
  | .sl _ _ l => some l.length
  | .nils => some 0
  | .arr n _ _ => some n
  | .rs d => match getM s.mem d with
    | some (.row _ _ l) => some l.length
    | _ => none
  | _ => none
def lenOK (P : Program) (T : TypeId) (v : V) : Bool :=
  match P.underlying T, v with
  | some .string, .str _ => true
  | some (.slice _), .sl _ _ _ | some (.slice _), .nils | some (.slice _), .rs _ => true
  | some (.array n _), .arr n' _ _ => decide (n = n')
  | some (.map _ _), .mp _ => true
  | _, _ => false
def minmax (mx : Bool) (x y : V) : Option V :=
  match x, y with
  | .int k a, .int _ b => some (.int k (match mx with | true => (if b > a then b else a) | false => (if b < a then b else a)))
  | _, _ => none
def minmaxL (mx : Bool) (x : V) : List V → Option V
  | [] => some x
  | y :: ys => (minmax mx x y).bind fun z => minmaxL mx z ys
/-- The row that an append reads from: what was appended. -/
def srcOf (m : Mem) (E : TypeId) (t : Ty) (v : V) : Option (List t.den) := dec m (.sl E t) v
def maxBytes : Nat := 140737488355328
def evSlice (P : Program) (T : TypeId) (s : St) (x : V) (lo hi : Option V) (K : V → St → Tree) : Tree :=
  match x with
  | .str b => match P.underlying T, (match lo with | none => some 0 | some v => intOf? v), (match hi with | none => some (b.size : Int) | some v => intOf? v) with
    | some .string, some l, some h => .br (decide (0 ≤ l ∧ l ≤ h ∧ h ≤ b.size)) (K (.str (b.extract l.toNat h.toNat)) s) .fail
    | _, _, _ => .fail
  | .sl E t xs => match elemSize P T, (match lo with | none => some 0 | some v => intOf? v), (match hi with | none => some (xs.length : Int) | some v => intOf? v) with
    | some n, some l, some h => if n = t.size then .br (decide (0 ≤ l ∧ l ≤ h ∧ h ≤ xs.length)) (K (.sl E t ((xs.take h.toNat).drop l.toNat)) s) .fail else .fail
    | _, _, _ => .fail
  | _ => .fail
def evAppend (P : Program) (s : St) (dst : Option Nat) (T : TypeId) (x y : V) (K : V → St → Tree) : Tree :=
  match P.underlying T with
  | some (.slice E) => match tyOf P 12 E, P.info? E, zeroV P E with
    | some t, some i, some _ =>
      if i.size = t.size ∧ 0 < t.size ∧ 0 < i.bytes then
        match x with
        | .rs d => match getM s.mem d with
          | some (.row E' t' l) => if h : (E' = E ∧ t' = t) ∧ 1000 ≤ d then
              match srcOf s.mem E t y with
              | some l' => .br (decide ((l.length + l'.length) * i.bytes ≤ maxBytes))
                  (K (.rs d) { s with fr := s.fr.map (V.kill d), mem := setM (killM d s.mem) d (.row E t ((h.1.2 ▸ l) ++ l')) }) .fail
              | none => .fail
            else .fail
          | _ => .fail
        | .nils => match dst, srcOf s.mem E t y with
          | some d, some l' => match s.free (key d) with
            | some s' => .br (decide (l'.length * i.bytes ≤ maxBytes))
                (K (.rs (key d)) { s' with mem := (key d, .row E t l') :: s'.mem }) .fail
            | none => .fail
          | _, _ => .fail
        | _ => .fail
      else .fail
    | _, _, _ => .fail
  | _ => .fail
/-- The bytes of a text. -/
def bytesL (b : ByteArray) : List Int := b.data.toList.map fun x => (x.toNat : Int)
/-- append(l, text...). -/
def evAppendS (P : Program) (s : St) (dst : Option Nat) (T T' : TypeId) (x y : V) (K : V → St → Tree) : Tree :=
  match y, P.underlying T, P.underlying T' with
  | .str b, some (.slice E), some .string => match tyOf P 12 E, P.info? E with
    | some (.int .u8), some i =>
      if i.size = 1 ∧ i.bytes = 1 then
        match i.zero with
        | some (.int .u8 0) => match x with
          | .rs d => match getM s.mem d with
            | some (.row E' (.int .u8) l) => if E' = E ∧ 1000 ≤ d then .br (decide (l.length + b.size ≤ maxBytes))
                (K (.rs d) { s with fr := s.fr.map (V.kill d), mem := setM (killM d s.mem) d (.row E (.int .u8) (l ++ bytesL b)) }) .fail else .fail
            | _ => .fail
          | .nils => match dst with
            | some d => match s.free (key d) with
              | some s' => .br (decide (b.size ≤ maxBytes)) (K (.rs (key d)) { s' with mem := (key d, .row E (.int .u8) (bytesL b)) :: s'.mem }) .fail
              | none => .fail
            | none => .fail
          | _ => .fail
        | _ => .fail
      else .fail
    | _, _ => .fail
  | _, _, _ => .fail
def evMake (P : Program) (s : St) (dst : Option Nat) (T : TypeId) (n c : V) (K : V → St → Tree) : Tree :=
  match P.underlying T, n, c, dst with
  | some (.slice E), .int _ n, .int _ c, some d => match tyOf P 12 E, P.info? E, zeroV P E, s.free (key d) with
    | some t, some i, some z, some s' =>
      if i.size = t.size ∧ 0 < t.size ∧ 0 < i.bytes then
        match dec [] t z with
        | some y => .br (decide (0 ≤ n ∧ n ≤ c ∧ c * i.bytes ≤ maxBytes)) (K (.rs (key d)) { s' with mem := (key d, .row E t (List.replicate n.toNat y)) :: s'.mem }) .fail
        | none => .fail
      else .fail
    | _, _, _, _ => .fail
  | _, _, _, _ => .fail
/-- The zero value has the type's form. -/
def zeroForm (P : Program) (E : TypeId) (t : Ty) : Bool :=
  match P.info? E with
  | some i => match i.zero with
    | some (.agg _) => t.isAgg
    | some _ => !t.isAgg
    | none => false
  | none => false
/-- A map of the call's own, that the program's type describes. -/
def mapAt (P : Program) (s : St) (T : TypeId) (d : Nat) (C : (K E : TypeId) → (k t : Ty) → List (k.den × t.den) → Tree) : Tree :=
  match getM s.mem d with
  | some (.map K E k t l) => match P.underlying T with
    | some (.map K' E') => if (K' = K ∧ E' = E) ∧ eqOK P 12 K = true ∧ tyOf P 12 K = some k then C K E k t l else .fail
    | _ => .fail
  | _ => .fail
def evMakeMap (P : Program) (s : St) (dst : Option Nat) (T : TypeId) (rv : Option V) (K : V → St → Tree) : Tree :=
  match P.underlying T, dst, (match rv with | none => true | some v => (intOf? v).isSome) with
  | some (.map K' E), some d, true => match tyOf P 12 K', tyZ P 12 E, eqOK P 12 K', s.free (key d) with
    | some k, some t, true, some s' => K (.mp (key d)) { s' with mem := (key d, .map K' E k t []) :: s'.mem }
    | _, _, _, _ => .fail
  | _, _, _ => .fail
def evLookup (P : Program) (s : St) (T : TypeId) (m ix : V) (ok : Bool) (K : V → St → Tree) : Tree :=
  match m with
  | .mp d => mapAt P s T d fun _ E k t l => match dec [] k ix, zeroV P E with
    | some x, some z => match tyOf P 12 E, dec [] t z with
      | some t', some y => if t' = t ∧ zeroForm P E t = true then match ok with
        | true => K (.tup (.pair (enc t ((mget (eqD k) x l).getD y)) (.pair (.bool (mget (eqD k) x l).isSome) .unit))) s
        | false => K (enc t ((mget (eqD k) x l).getD y)) s
        else .fail
      | _, _ => .fail
    | _, _ => .fail
  | _ => .fail
def evMapUpdate (P : Program) (s : St) (T : TypeId) (m ix : V) (x : Operand) (K : V → St → Tree) : Tree :=
  match m with
  | .mp d => match s.freezeAll (rowKeys (ev s x)) with
    | some s' => mapAt P s' T d fun K' E k t l => match dec [] k ix, dec [] t (ev s' x) with
      | some y, some z => K .undef { s' with mem := setM s'.mem d (.map K' E k t (mput (eqD k) y z l)) }
      | _, _ => .fail
    | none => .fail
  | _ => .fail
def evDelete (P : Program) (s : St) (T : TypeId) (m ix : V) (K : V → St → Tree) : Tree :=
  match m with
  | .mp d => mapAt P s T d fun K' E k t l => match dec [] k ix with
    | some y => K (.tup .unit) { s with mem := setM s.mem d (.map K' E k t (mdel (eqD k) y l)) }
    | none => .fail
  | _ => .fail
def evCall (C : Tab) (s : St) (f : FuncId) (xs : List Operand) (K : V → St → Tree) : Tree :=
  match findE s.mem (xs.map (ev s)) C.es f with
  | some ⟨e, a⟩ => match (match e.rt.any Ty.refs with | true => s.freezeAll (keysOf s xs) | false => some s) with
    | some s' => .ask (e.f a) fun r => K (wrapRes (encs e.rt r)) s'
    | none => .fail
  | none => evCallO s s f xs K (match s.freezeAll (keysOf s xs) with
    | some s' => evCallO s s' f xs K .fail C.os
    | none => .fail) C.os
/-- A call with these values, of a function that is handed data. -/
def evCallC (C : Tab) (s : St) (f : FuncId) (vs : List V) (K : V → St → Tree) : Tree :=
  match findE s.mem vs C.es f with
  | some ⟨e, a⟩ => match (match e.rt.any Ty.refs with | true => s.freezeAll (vs.flatMap rowKeys) | false => some s) with
    | some s' => .ask (e.f a) fun r => K (wrapRes (encs e.rt r)) s'
    | none => .fail
  | none => .fail
/-- A slice held against nil: where it is empty nobody knows. -/
def evNil1 (b : Bool) (e : Bool) (K : V → Tree) : Tree := .br e (.both (K (.bool b)) (K (.bool (!b)))) (K (.bool (!b)))
def evNil (s : St) (op : BinOp) (v : V) (K : V → Tree) : Tree :=
  match (match op with | .eql => some true | .neq => some false | _ => none) with
  | some b => match v with
    | .nils => K (.bool b)
    | .sl _ _ l => evNil1 b l.isEmpty K
    | .rs d => match getM s.mem d with
      | some (.row _ _ l) => evNil1 b l.isEmpty K
      | _ => .fail
    | _ => .fail
  | none => .fail
/-- One cell of a slice that is read alone. -/
def evLit (i : Int) : Nat → V → (V → Tree) → Tree
  | j, .pair a b, K => match a.one with
    | true => .br (decide (i = j)) (K (.sptr none a)) (evLit i (j + 1) b K)
    | false => .fail
  | _, _, _ => .fail
/-- The cells of a slice, one by one. -/
def litV (s : St) : Nat → List (Nat × Operand) → Option V
  | _, [] => some .unit
  | j, (k, x) :: ps => match decide (k = j) && (ev s x).one with
    | true => (litV s (j + 1) ps).map (.pair (ev s x))
    | false => none
/-- A slice of addresses (no data). -/
def evLits (P : Program) (s : St) (E : TypeId) (n : Nat) (parts : List (Nat × Operand)) (K : V → St → Tree) : Tree :=
  match P.info? E, litV s 0 parts with
  | some i, some u => match i.zero with
    | some z => if i.size = 1 ∧ z.cells.size = 1 ∧ parts.length = n ∧ 0 < n ∧ n ≤ 2 ^ 24 then K (.sptr (some n) u) s else .fail
    | none => .fail
  | _, _ => .fail
def evOp (P : Program) (C : Tab) (s : St) (o : Oper) (K : V → St → Tree) : Tree :=
  match o.op with
  | .move x | .assign x =>
    match ev s x with
    | .nils => match o.dst, P.underlying o.type with
      | some d, some (.slice E) => match tyOf P 12 E, s.free (key d) with
        | some t, some s' => if 0 < t.size then K (.rs (key d)) { s' with mem := (key d, .row E t []) :: s'.mem } else .fail
        | _, _ => .fail
      | _, _ => .fail
    | v => K v s
  | .pick c a b => match ev s c with
    | .bool t => match ev s a, ev s b with
      | .bool x, .bool y => K (.bool (bif t then x else y)) s
      | x, y => .br t (K x s) (K y s)
    | _ => .fail
  | .binOp op T x y _ => match ev s y, P.underlying T with
    | .nils, some (.slice _) => evNil s op (ev s x) fun v => K v s
    | .ifc _, some (.interface _) => match isNilC y, ev s x, op with
      | true, .ifc b, .eql => K (.bool (!b)) s
      | true, .ifc b, .neq => K (.bool b) s
      | _, _, _ => .fail
    | _, _ => evBin P T op (ev s x) (ev s y) fun v => K v s
  | .unOp op _ x => match op, ev s x with
    | .not, .bool b => K (.bool (!b)) s
    | .neg, .int k n => K (.int k (k.wrap (0 - n))) s
    | .xor, .int k n => K (.int k (k.wrap (BitVec.ofInt k.bits (if k.signed then -1 else k.max) ^^^ BitVec.ofInt k.bits n).toNat)) s
    | _, _ => .fail
  | .convert src dst x => match P.underlying src, P.underlying dst, ev s x with
    | some _, some (.int k), .int _ n => K (.int k (k.wrap n)) s
    | some .string, some .string, .str b => K (.str b) s
    | some (.slice E), some .string, v => match P.underlying E, dec s.mem (.sl E (.int .u8)) v with
      | some (.int .u8), some l => K (.str (mkBytes l)) s
      | _, _ => .fail
    | _, _, _ => .fail
  | .alloc T => match o.dst, zeroV P T with
    | some d, some z => match s.free (key d) with
      | some s' => K (.ptr (key d) []) { s' with mem := (key d, .box (tagZ P T z)) :: s'.mem }
      | none => .fail
    | _, _ => .fail
  | .box T x => match o.dst with
    | some d => match s.free (key d) with
      | some s' => if fits P T (ev s' x) = true ∧ (ev s' x).tag = none then K (.ptr (key d) []) { s' with mem := (key d, .box (ev s' x)) :: s'.mem } else .fail
      | none => .fail
    | none => .fail
  | .build T parts => match zeroV P T with
    | some (.agg z) => match fieldsOK P T, fillF P T s parts.toList z with
      | true, some c => K (.agg c) s
      | _, _ => .fail
    | some (.arr n t l) => match P.underlying T with
      | some (.array n' E) => match P.info? E with
        | some i => if n = n' ∧ i.size = t.size then
            match fillL [] t s parts.toList l with
            | some l' => K (.arr n t l') s
            | none => .fail
          else .fail
        | none => .fail
      | _ => .fail
    | _ => .fail
  | .buildSlice T n parts => match P.underlying T, o.dst with
    | some (.slice E), some d => match tyOf P 12 E, P.info? E, zeroV P E with
      | some t, some i, some z => if i.size = t.size ∧ 0 < t.size ∧ n * t.size ≤ 2 ^ 24 then
          match dec [] t z with
          | some y => match fillL s.mem t s parts.toList (List.replicate n y), s.freezeAll (keysOf s (parts.toList.map (·.2))) with
            | some l, some s' => match s'.free (key d) with
              | some s'' => K (.rs (key d)) { s'' with mem := (key d, .row E t l) :: s''.mem }
              | none => .fail
            | _, _ => .fail
          | none => .fail
        else .fail
      | none, _, _ => evLits P s E n parts.toList K
      | _, _, _ => .fail
    | _, _ => .fail
  | .load T a => match deref s (ev s a) with
    | some u => match fits P T u with
      | true => K u s
      | false => .fail
    | none => .fail
  | .store T a x => match s.freezeAll (match ev s a with | .eptr _ _ _ => rowKeys (ev s x) | _ => []) with
    | some s' => match fits P T (ev s' x), storeTo s' (ev s' a) (ev s' x) with
      | true, some s'' => K .undef s''
      | _, _ => .fail
    | none => .fail
  | .nilCheck x => match ev s x with
    | .ptr d p => K (.ptr d p) s
    | .eptr d i p => K (.eptr d i p) s
    | .sptr none u => K (.sptr none u) s
    | _ => .fail
  | .fieldAddr S x j => match deref s (ev s x) with
    | some (.agg c) => match fieldOK P S j c, nth c j with
      | true, some u => K (stepV (.fld j) u (ev s x)) s
      | _, _ => .fail
    | _ => .fail
  | .field S x j => match ev s x with
    | .agg c => match fieldOK P S j c, nth c j with
      | true, some u => match fits P (fieldType P S j) u with
        | true => K u s
        | false => .fail
      | _, _ => .fail
    | _ => .fail
  | .indexAddr T x ix => match intOf? (ev s ix) with
    | some i => match ev s x with
      | .rs d => match getM s.mem d with
        | some (.row _ t l) => if elemSize P T = some t.size then .br (decide (0 ≤ i ∧ i < l.length)) (K (.eptr d i []) s) .fail else .fail
        | _ => .fail
      | .sptr (some n) u => if elemSize P T = some 1 ∧ u.size = n ∧ n ≤ 2 ^ 24 then evLit i 0 u fun v => K v s else .fail
      | .sl _ t l => if elemSize P T = some t.size then .br (decide (0 ≤ i ∧ i < l.length)) (K (.sptr none (enc t (l.getD i.toNat (dflt t)))) s) .fail else .fail
      | a => match deref s a, P.underlying T with
        | some (.arr n t l), some (.array n' E) => match P.info? E with
          | some inf => if n = n' ∧ inf.size = t.size then .br (decide (0 ≤ i ∧ i < n)) (K (stepV (.idx i) (enc t (l.getD i.toNat (dflt t))) a) s) .fail else .fail
          | none => .fail
        | _, _ => .fail
    | none => .fail
  | .index T x ix => match intOf? (ev s ix), ev s x, P.underlying T with
    | some i, .str b, some .string => .br (decide (0 ≤ i ∧ i < b.size)) (K (.int .u8 (byteAt b i)) s) .fail
    | some i, .arr n t l, some (.array n' E) => match fits P E (enc t (l.getD i.toNat (dflt t))) with
      | true => if n = n' then .br (decide (0 ≤ i ∧ i < n)) (K (enc t (l.getD i.toNat (dflt t))) s) .fail else .fail
      | false => .fail
    | _, _, _ => .fail
  | .slice T x lo hi mx => match mx with
    | some _ => .fail
    | none => match s.freezeAll (rowKeys (ev s x)) with
      | some s' => evSlice P T s' (ev s' x) (lo.map (ev s')) (hi.map (ev s')) K
      | none => .fail
  | .extract x i => match ev s x with
    | .tup c => match isClo c, nthC c i with
      | none, some v => K v s
      | _, _ => .fail
    | _ => .fail
  | .makeFunc fn first captured => match fn, ((first ++ captured).toList.map (ev s)).all V.notTup with
    | .func f, true => K (.tup (.pair .undef (.pair (.fn f) (.pair (.int .i64 first.size) (chain ((first ++ captured).toList.map (ev s))))))) s
    | _, _ => .fail
  | .makeMap T rv => evMakeMap P s o.dst T (rv.map (ev s)) K
  | .lookup T m ix ok => evLookup P s T (ev s m) (ev s ix) ok K
  | .mapUpdate T m ix x => evMapUpdate P s T (ev s m) (ev s ix) x K
  | .insert T m ix x => evMapUpdate P s T (ev s m) (ev s ix) x K
  | .makeSlice T n c => evMake P s o.dst T (ev s n) (ev s c) K
  | .call c => match c.callee with
    | .value x => match ev s x with
      | .fn f => evCall C s f c.args.toList K
      | .tup q => match isClo q with
        | some (f, n) => evCallC C s f ((caps q).take n.toNat ++ c.args.toList.map (ev s) ++ (caps q).drop n.toNat) K
        | none => .fail
      | _ => .fail
    | .builtin .delete => match c.args.toList, c.argTypes.toList with
      | [m, ix], T :: _ => evDelete P s T (ev s m) (ev s ix) K
      | _, _ => .fail
    | .builtin .len => match c.args.toList, c.argTypes.toList with
      | [x], [T] => match lenOK P T (ev s x), lenV s (ev s x) with
        | true, some n => K (.int .i64 n) s
        | _, _ => .fail
      | _, _ => .fail
    | .builtin .max => match c.args.toList.map (ev s) with
      | x :: xs => match minmaxL true x xs with
        | some v => K v s
        | none => .fail
      | [] => .fail
    | .builtin .min => match c.args.toList.map (ev s) with
      | x :: xs => match minmaxL false x xs with
        | some v => K v s
        | none => .fail
      | [] => .fail
    | .builtin .append => match c.args.toList.map (ev s), c.argTypes.toList with
      | [x, y], [T, T'] => if T = T' then evAppend P s o.dst T x y K else evAppendS P s o.dst T T' x y K
      | _, _ => .fail
    | _ => .fail
  | _ => .fail
/-- The temporary that a guard asks. -/
def guardOf (ops : Array Oper) (j : Nat) : Option Nat := (ops[j]?).bind (·.dst)
def evOps (P : Program) (C : Tab) (ops : Array Oper) : List Oper → St → (St → Tree) → Tree
  | [], s, K => K s
  | o :: os, s, K =>
    match o.guard with
    | none => evOp P C s o fun v s' => evOps P C ops os (s'.put o.dst v) K
    | some (j, w) => match guardOf ops j with
      | some d => match s.fr.get d with
        | .bool b => match w with
          | true => .br b (evOp P C (s.put (some d) (.bool true)) o fun v s' => evOps P C ops os (s'.put o.dst v) K)
              (evOps P C ops os ((s.put (some d) (.bool false)).put o.dst .undef) K)
          | false => .br b (evOps P C ops os ((s.put (some d) (.bool true)).put o.dst .undef) K)
              (evOp P C (s.put (some d) (.bool false)) o fun v s' => evOps P C ops os (s'.put o.dst v) K)
        | .undef => evOps P C ops os (s.put o.dst .undef) K
        | _ => .fail
      | none => .fail
/-- An operation that only reads. -/
def reads : Op → Bool
  | .move _ | .assign _ | .pick .. | .binOp .. | .unOp .. | .convert .. | .load .. | .nilCheck .. | .fieldAddr .. | .field .. | .indexAddr .. | .index .. | .extract .. | .build .. => true
  | .slice .. => true
  | .call c => match c.callee with
    | .builtin .len => true
    | .builtin .max => true
    | .builtin .min => true
    | _ => false
  | _ => false
/-- It looks into memory (beside loads). -/
def heapy : Op → Bool
  | .convert .. => true
  | .call c => match c.callee with
    | .builtin .len => true
    | _ => false
  | _ => false
def isCall : Op → Bool
  | .call c => match c.callee with
    | .value _ => true
    | _ => false
  | _ => false
def isAlloc : Op → Bool
  | .alloc _ => true
  | _ => false
/-- It may make blocks. -/
def grows (op : Op) : Bool := isCall op || isAlloc op
def isStore : Op → Bool
  | .store .. => true
  | _ => false
/-- An order for a region whose order is drawn: what only reads first, calls one by one. -/
def sched (ops : Array Oper) : Nat → Array Bool → Option (List Nat)
  | 0, L => match Region.ready .any ops L with
    | [] => some []
    | _ => none
  | n + 1, L => match Region.ready .any ops L with
    | [] => some []
    | r :: rs => match (r :: rs).find? fun i => (match ops[i]? with | some o => reads o.op | none => false) && Region.free .any ops L i with
      | some i => (sched ops n (L.setIfInBounds i true)).map (i :: ·)
      | none => match rs, (match ops[r]? with | some o => isCall o.op || isStore o.op | none => false) with
        | [], true => (sched ops n (L.setIfInBounds r true)).map (r :: ·)
        | _, _ => none
def drawOrder (P : Program) (ops : Array Oper) : Option (List Nat) :=
  match P.follows .mixedOrders && Region.noSelect ops with
  | true => match sched ops ops.size (Array.replicate ops.size false) with
    | some l => if l.length = ops.size then some l else none
    | none => none
  | false => none
/-- The temporary of before the region that an address comes from. -/
def baseTmp (ops : Array Oper) : Nat → Operand → Option Nat
  | 0, _ => none
  | n + 1, .tmp t => match ops.toList.find? fun o => o.dst == some t with
    | none => some t
    | some o => match o.op with
      | .fieldAddr _ x _ => baseTmp ops n x
      | .indexAddr _ x _ => baseTmp ops n x
      | .nilCheck x => baseTmp ops n x
      | .move x => baseTmp ops n x
      | .alloc _ => some t
      | _ => none
  | _ + 1, _ => none
def storeBases (ops : Array Oper) : Option (List Nat) :=
  match (ops.toList.filterMap fun o => match o.op with | .store _ a _ => some a | _ => none).mapM (baseTmp ops 20) with
  | some BT => if ops.all fun o => match o.dst with | some d => !BT.contains d | none => true then some BT else none
  | none => none
/-- It reads no memory. -/
def light : Op → Bool
  | .load .. => false
  | op => !heapy op
/-- All stores wait for this operation. -/
def early (ops : Array Oper) (i : Nat) : Bool := ops.all fun o => !isStore o.op || o.after.any fun e => Region.binds .any e && e.on == i
def btOK (s : St) (BT : List Nat) : Bool := BT.all fun t => match s.fr.get t with
  | .ptr _ _ => true
  | _ => false
/-- A store goes into a row, by a slice of before the region. -/
def btSl (s : St) : Option (List Nat) → Bool
  | some BT => BT.any fun t => match s.fr.get t with
    | .rs _ => true
    | .sl _ _ _ => true
    | .eptr _ _ _ => true
    | _ => false
  | none => false
def loadFree (s : St) (BT : List Nat) (x : Operand) : Bool := match ev s x with
  | .ptr d _ => BT.all fun t => match s.fr.get t with
    | .ptr d' _ => decide (d' ≠ d)
    | _ => false
  | _ => false
def storeIn (s : St) (BT : List Nat) (x : Operand) : Bool := match ev s x with
  | .ptr d _ => BT.any fun t => match s.fr.get t with
    | .ptr d' _ => decide (d' = d)
    | _ => false
  | _ => false
def okS (s : St) (BT : List Nat) (er : Bool) (o : Oper) : Bool :=
  match o.op with
  | .store _ a _ => storeIn s BT a
  | .load _ x => er || loadFree s BT x
  | op => er || !heapy op
/-- One operation, with its guard. ok: it may be done here. -/
def stepW (P : Program) (C : Tab) (ops : Array Oper) (ok : St → Bool) (o : Oper) (s : St) (next : St → Tree) : Tree :=
  match o.guard with
  | none => match ok s with
    | true => evOp P C s o fun v s' => next (s'.put o.dst v)
    | false => .fail
  | some (j, w) => match guardOf ops j with
    | some d => match s.fr.get d with
      | .bool b => match w with
        | true => .br b (match ok (s.put (some d) (.bool true)) with
            | true => evOp P C (s.put (some d) (.bool true)) o fun v s' => next (s'.put o.dst v)
            | false => .fail) (next ((s.put (some d) (.bool false)).put o.dst .undef))
        | false => .br b (next ((s.put (some d) (.bool true)).put o.dst .undef)) (match ok (s.put (some d) (.bool false)) with
            | true => evOp P C (s.put (some d) (.bool false)) o fun v s' => next (s'.put o.dst v)
            | false => .fail)
      | .undef => next (s.put o.dst .undef)
      | _ => .fail
    | none => .fail
/-- A region whose order is drawn, with stores. -/
def evOpsS (P : Program) (C : Tab) (ops : Array Oper) (BT : List Nat) : List Nat → St → (St → Tree) → Tree
  | [], s, K => K s
  | i :: l, s, K => match ops[i]? with
    | some o => stepW P C ops (fun s => okS s BT (early ops i) o) o s fun s' => evOpsS P C ops BT l s' K
    | none => .fail
/-! regions whose order is drawn, with variables that they make -/
/-- A variable that a region makes: its temporary, its type. -/
def aOp (P : Program) (ops : Array Oper) (i : Nat) : Option (Nat × TypeId) :=
  match ops[i]? with
  | some o => match o.op, o.dst, o.guard, o.after.toList with
    | .alloc T, some t, none, [] => match zeroV P T with
      | some _ => some (t, T)
      | none => none
    | _, _, _, _ => none
  | none => none
def aTmp (P : Program) (ops : Array Oper) (i : Nat) : Nat := match aOp P ops i with | some (t, _) => t | none => 0
def allocsOf (P : Program) (ops : Array Oper) : List Nat := (List.range ops.size).filter fun i => (aOp P ops i).isSome
def lst (L : Array Bool) (D : List Nat) : Array Bool := D.foldr (fun i L => L.setIfInBounds i true) L
def endOK (ops : Array Oper) (AL : List Nat) (L : Array Bool) : Bool := AL.all fun i => (Region.ready .any ops (lst L (AL.erase i))).all fun j => AL.contains j
/-- What comes ahead, whenever the variables are made. -/
def schedA (ops : Array Oper) (AL : List Nat) : Nat → Array Bool → Option (List Nat)
  | 0, L => match endOK ops AL L with
    | true => some []
    | false => none
  | n + 1, L => match (Region.ready .any ops L).filter fun i => !AL.contains i with
    | [] => match endOK ops AL L with
      | true => some []
      | false => none
    | r :: rs => match (r :: rs).find? fun i => (match ops[i]? with | some o => reads o.op | none => false) && Region.free .any ops L i && (early ops i || (match ops[i]? with | some o => light o.op | none => false)) with
      | some i => (schedA ops AL n (L.setIfInBounds i true)).map (i :: ·)
      | none => match decide (Region.ready .any ops (lst L AL) = [r]), (match ops[r]? with | some o => isCall o.op | none => false) with
        | true, true => (schedA ops AL n (L.setIfInBounds r true)).map (r :: ·)
        | _, _ => none
def setL (L : Array Bool) (l : List Nat) : Array Bool := l.foldl (fun L i => L.setIfInBounds i true) L
def dstOut (ops : Array Oper) (ts : List Nat) (i : Nat) : Bool := match ops[i]? with
  | some o => match o.dst with
    | some d => !ts.contains d
    | none => true
  | none => true
/-- The variables, what comes ahead of them, what comes behind, the bases of stores. -/
def drawA (P : Program) (ops : Array Oper) : Option (List Nat × List Nat × List Nat) :=
  match P.follows .mixedOrders && Region.noSelect ops with
  | true => match schedA ops (allocsOf P ops) ops.size (Array.replicate ops.size false) with
    | some lA => match sched ops ops.size (lst (setL (Array.replicate ops.size false) lA) (allocsOf P ops)), (ops.toList.filterMap fun o => match o.op with | .store _ a _ => some a | _ => none).mapM (baseTmp ops 20) with
      | some lB, some BT => match decide (lA.length + (allocsOf P ops).length + lB.length = ops.size) && decide ((allocsOf P ops).map (aTmp P ops)).Nodup && lA.all (dstOut ops ((allocsOf P ops).map (aTmp P ops))) && lB.all (dstOut ops BT) with
        | true => some (lA, lB, BT)
        | false => none
      | _, _ => none
    | none => none
  | false => none
/-! regions whose order is drawn: what only reads comes first, if all that does more waits for it -/
def isBS : Op → Bool
  | .buildSlice .. => true
  | _ => false
/-- What waits for an operation, directly or not. -/
def behind (ops : Array Oper) (i : Nat) : List Nat := (List.range ops.size).foldl (fun W j => match ops[j]? with
  | some o => if j != i && o.after.any (fun e => Region.binds .any e && (e.on == i || W.contains e.on)) then j :: W else W
  | none => W) []
def goodW (ops : Array Oper) (L : Array Bool) (i : Nat) (W : List Nat) : Bool :=
  (W.all fun j => !L.getD j true && j != i && match ops[j]? with | some o => o.after.any (fun e => Region.binds .any e && (e.on == i || W.contains e.on)) | none => false) &&
  ((List.range ops.size).all fun j => W.contains j || L.getD j true || match ops[j]? with | some o => reads o.op || isBS o.op | none => false)
def isMove : Op → Bool
  | .move _ => true
  | _ => false
def schedW (ops : Array Oper) : Nat → Array Bool → Option (List Nat)
  | 0, L => match Region.ready .any ops L with
    | [] => some []
    | _ => none
  | n + 1, L => match Region.ready .any ops L with
    | [] => some []
    | r :: rs => match (r :: rs).find? fun i => (match ops[i]? with | some o => reads o.op | none => false) && Region.free .any ops L i && (goodW ops L i (behind ops i) || (match ops[i]? with | some o => isMove o.op | none => false)) with
      | some i => (schedW ops n (L.setIfInBounds i true)).map (i :: ·)
      | none => match rs, (match ops[r]? with | some o => !reads o.op | none => false) with
        | [], true => (schedW ops n (L.setIfInBounds r true)).map (r :: ·)
        | _, _ => none
def drawW (P : Program) (ops : Array Oper) : Option (List Nat) :=
  match P.follows .mixedOrders && Region.noSelect ops with
  | true => match schedW ops ops.size (Array.replicate ops.size false) with
    | some l => if l.length = ops.size then some l else none
    | none => none
  | false => none
/-! regions whose order is drawn: calls that are handed objects, and reads that may come ahead of them or behind them -/
/-- A call that is handed objects leaves this variable alone. -/
def callFree (s : St) (xs : List Operand) (d : Nat) : Bool :=
  !(callD s (xs.map (ev s))).contains d && match s.freezeAll (keysOf s xs) with
    | some s2 => !(callD s2 (xs.map (ev s2))).contains d && (match getM s2.mem d with | some (.box _) => true | _ => false)
    | none => true
/-- All that does more than read, and is still to come, waits for it. -/
def goodF (ops : Array Oper) (L : Array Bool) (i : Nat) (W : List Nat) : Bool :=
  (W.all fun j => !L.getD j true && j != i && match ops[j]? with | some o => o.after.any (fun e => Region.binds .any e && (e.on == i || W.contains e.on)) | none => false) &&
  ((List.range ops.size).all fun j => W.contains j || L.getD j true || match ops[j]? with | some o => reads o.op | none => false)
def okF (s : St) (FT : List Nat) (good : Bool) (o : Oper) : Bool :=
  match o.op with
  | .store _ a _ => loadFree s FT a
  | .load _ x => good || storeIn s FT x
  | .call c => match c.callee with
    | .value _ => FT.all fun t => match s.fr.get t with | .ptr d _ => callFree s c.args.toList d | _ => false
    | _ => good || !heapy o.op
  | op => good || !heapy op
/-! plans are brought to an end before they are used -/
def forceN : Nat → (Nat → Tree) → Tree
  | 0, k => k 0
  | n + 1, k => k (n + 1)
def forceB : Bool → (Bool → Tree) → Tree
  | true, k => k true
  | false, k => k false
def forceL : List Nat → (List Nat → Tree) → Tree
  | [], k => k []
  | i :: l, k => forceN i fun i' => forceL l fun l' => k (i' :: l')
def forceP : List (Nat × Bool) → (List (Nat × Bool) → Tree) → Tree
  | [], k => k []
  | (i, b) :: l, k => forceB b fun b' => forceN i fun i' => forceP l fun l' => k ((i', b') :: l')
def planF (ops : Array Oper) : List Nat → Array Bool → List (Nat × Bool)
  | [], _ => []
  | i :: l, L => (i, goodF ops L i (behind ops i)) :: planF ops l (L.setIfInBounds i true)
def evOpsF (P : Program) (C : Tab) (ops : Array Oper) (FT : List Nat) : List (Nat × Bool) → St → (St → Tree) → Tree
  | [], s, K => K s
  | (i, g) :: l, s, K => match ops[i]? with
    | some o => stepW P C ops (fun s => okF s FT g o) o s fun s' => evOpsF P C ops FT l s' K
    | none => .fail
/-- Loads that not all waits for. -/
def floats (ops : Array Oper) : List Nat → Array Bool → List Operand
  | [], _ => []
  | i :: l, L => (match ops[i]? with
    | some o => match o.op with
      | .load _ x => if goodF ops L i (behind ops i) then [] else [x]
      | _ => []
    | none => []) ++ floats ops l (L.setIfInBounds i true)
def floatBases (ops : Array Oper) (l : List Nat) : Option (List Nat) :=
  match (floats ops l (Array.replicate ops.size false)).mapM (baseTmp ops 20) with
  | some FT => if ops.all fun o => match o.dst with | some d => !FT.contains d | none => true then some FT else none
  | none => none
def objCall (C : Tab) (ops : Array Oper) : Bool := ops.any fun o => match o.op with
  | .call c => match c.callee with
    | .value (.func f) => C.os.any fun e => e.id == f
    | _ => false
  | _ => false
/-! regions whose order is drawn: reads that all waits for come first; of two others each may come first -/
/-- A call of a function that is handed data alone. -/
def dataCall (C : Tab) : Op → Bool
  | .call c => match c.callee with
    | .value (.func f) => C.os.all fun e => e.id != f
    | _ => false
  | _ => false
/-- It makes blocks, and turns none. -/
def quiet (C : Tab) (op : Op) : Bool := isBS op || dataCall C op
def goodB (C : Tab) (ops : Array Oper) (L : Array Bool) (i : Nat) (W : List Nat) : Bool :=
  (W.all fun j => !L.getD j true && j != i && match ops[j]? with | some o => o.after.any (fun e => Region.binds .any e && (e.on == i || W.contains e.on)) | none => false) &&
  ((List.range ops.size).all fun j => W.contains j || L.getD j true || match ops[j]? with | some o => reads o.op || quiet C o.op | none => false)
def hoistW (C : Tab) (ops : Array Oper) (L : Array Bool) (i : Nat) : Bool :=
  (match ops[i]? with | some o => reads o.op | none => false) && Region.free .any ops L i && (goodB C ops L i (behind ops i) || (match ops[i]? with | some o => isMove o.op | none => false))
def evOpsB (P : Program) (C : Tab) (ops : Array Oper) : Nat → Array Bool → St → (St → Tree) → Tree
  | 0, L, s, K => match Region.ready .any ops L with
    | [] => K s
    | _ => .fail
  | n + 1, L, s, K => match Region.ready .any ops L with
    | [] => K s
    | r :: rs => match (r :: rs).find? (hoistW C ops L) with
      | some i => match ops[i]? with
        | some o => stepW P C ops (fun _ => true) o s fun s' => evOpsB P C ops n (L.setIfInBounds i true) s' K
        | none => .fail
      | none => match rs with
        | [] => match ops[r]? with
          | some o => stepW P C ops (fun _ => true) o s fun s' => evOpsB P C ops n (L.setIfInBounds r true) s' K
          | none => .fail
        | [r2] => match ops[r]?, ops[r2]? with
          | some o, some o2 => .both (stepW P C ops (fun _ => true) o s fun s' => evOpsB P C ops n (L.setIfInBounds r true) s' K)
                (stepW P C ops (fun _ => true) o2 s fun s' => evOpsB P C ops n (L.setIfInBounds r2 true) s' K)
          | _, _ => .fail
        | _ => .fail
/-! regions that make variables and store into them: what lies outside may be read first -/
def allocTs (ops : Array Oper) : List Nat := ops.toList.filterMap fun o => match o.op with | .alloc _ => o.dst | _ => none
/-- A store into a variable that the region makes. -/
def inSt (AT : List Nat) (o : Oper) : Bool := match o.op with
  | .store _ (.tmp t) _ => AT.contains t
  | _ => false
def goodN (C : Tab) (ops : Array Oper) (AT : List Nat) (L : Array Bool) (i : Nat) (W : List Nat) : Bool :=
  (W.all fun j => !L.getD j true && j != i && match ops[j]? with | some o => o.after.any (fun e => Region.binds .any e && (e.on == i || W.contains e.on)) | none => false) &&
  ((List.range ops.size).all fun j => W.contains j || L.getD j true || match ops[j]? with | some o => reads o.op || quiet C o.op || isAlloc o.op || inSt AT o | none => false)
def hoistN (C : Tab) (ops : Array Oper) (AT : List Nat) (fst : Bool) (L : Array Bool) (i : Nat) : Bool :=
  hoistW C ops L i || (fst && (match ops[i]? with | some o => reads o.op | none => false) && Region.free .any ops L i && goodN C ops AT L i (behind ops i))
/-- One operation; D: the variables that are made. -/
def stepN (P : Program) (C : Tab) (ops : Array Oper) (D : List Nat) (o : Oper) (s : St) (next : List Nat → St → Tree) : Tree :=
  match o.op, o.dst, o.guard with
  | .alloc _, some t, none => match decide (t < s.n) with
    | true => evOp P C s o fun v s' => next (t :: D) (s'.put o.dst v)
    | false => .fail
  | .store _ (.tmp t) _, _, _ => match D.contains t with
    | true => stepW P C ops (fun _ => true) o s (next (D.filter fun t => o.dst != some t))
    | false => .fail
  | _, _, _ => match reads o.op || quiet C o.op with
    | true => stepW P C ops (fun _ => true) o s (next (D.filter fun t => o.dst != some t))
    | false => .fail
def evOpsN (P : Program) (C : Tab) (ops : Array Oper) (AT : List Nat) : Nat → Bool → List Nat → Array Bool → St → (St → Tree) → Tree
  | 0, _, _, L, s, K => match Region.ready .any ops L with
    | [] => K s
    | _ => .fail
  | n + 1, fst, D, L, s, K => match Region.ready .any ops L with
    | [] => K s
    | r :: rs => match (r :: rs).find? (hoistN C ops AT fst L) with
      | some i => match ops[i]? with
        | some o => stepW P C ops (fun _ => true) o s fun s' => evOpsN P C ops AT n fst (D.filter fun t => o.dst != some t) (L.setIfInBounds i true) s' K
        | none => .fail
      | none => match rs with
        | [] => match ops[r]? with
          | some o => stepN P C ops D o s fun D s' => evOpsN P C ops AT n false D (L.setIfInBounds r true) s' K
          | none => .fail
        | [r2] => match ops[r]?, ops[r2]? with
          | some o, some o2 => .both (stepN P C ops D o s fun D s' => evOpsN P C ops AT n false D (L.setIfInBounds r true) s' K)
                (stepN P C ops D o2 s fun D s' => evOpsN P C ops AT n false D (L.setIfInBounds r2 true) s' K)
          | _, _ => .fail
        | _ => .fail
/-- Does the region store into a variable that it makes? -/
def hasInner (ops : Array Oper) : Bool := ops.any (inSt (allocTs ops))
def clr : List Nat → St → St
  | [], s => s
  | t :: ts, s => (clr ts s).put (some t) .any
def evOpsA (P : Program) (C : Tab) (ops : Array Oper) (ts : List Nat) : List Nat → St → (St → Tree) → Tree
  | [], s, K => K s
  | i :: l, s, K => match ops[i]? with
    | some o => match o.guard with
      | none => evOp P C s o fun v s' => evOpsA P C ops ts l (clr ts (s'.put o.dst v)) K
      | some _ => .fail
    | none => .fail
/-- The number of a code's first region. -/
def rid : Code → Nat
  | .region id _ _ => id
  | .seq a _ => rid a
  | .block _ c => rid c
  | .loop c => rid c
  | .cond _ a _ => rid a
  | _ => 0
def resV (s : St) : ResultVar → Option V
  | .tmp t => some (s.fr.get t)
  | .cell a _ => deref s (s.fr.get a)
def resOK (P : Program) (s : St) : ResultVar → Bool
  | .tmp _ => true
  | .cell a T => match deref s (s.fr.get a) with
    | some u => fits P T u
    | none => false
def evRes (P : Program) (rs : List ResultVar) (s : St) : Tree :=
  match rs.all (resOK P s), rs.mapM (resV s) with
  | true, some vs => .done vs s.mem
  | _, _ => .fail
def run (P : Program) (C : Tab) (rs : List ResultVar) (cuts : List Nat) : Bool → Nat → List Item → St → Tree
  | _, 0, _, _ => .fail
  | fst, n + 1, todo, s =>
    match todo with
    | [] => evRes P rs s
    | .code c :: k =>
      match c with
      | .skip => run P C rs cuts false n k s
      | .seq a b => run P C rs cuts fst n (.code a :: .code b :: k) s
      | .cond x a b => match ev s x with
        | .bool t => .br t (run P C rs cuts false n (.code a :: k) s) (run P C rs cuts false n (.code b :: k) s)
        | _ => .fail
      | .region id ops draw => match (!fst && cuts.contains id), draw with
        | true, _ => .cut (2 * id + 1) (.code (.region id ops draw) :: k) s
        | false, false => evOps P C ops ops.toList s fun s' => run P C rs cuts false n k s'
        | false, true => match drawOrder P ops with
          | some l => match objCall C ops with
            | true => match floatBases ops l with
              | some FT => forceL FT fun FT => forceP (planF ops l (Array.replicate ops.size false)) fun p => evOpsF P C ops FT p s fun s' => run P C rs cuts false n k s'
              | none => .fail
            | false => match ops.any fun o => isStore o.op with
              | false => evOps P C.pureT ops (l.filterMap fun i => ops[i]?) s fun s' => run P C rs cuts false n k s'
              | true => match btSl s (storeBases ops) with
                | false => match storeBases ops with
                  | some BT => evOpsS P C.pureT ops BT l s fun s' => run P C rs cuts false n k s'
                  | none => .fail
                | true => match P.follows .mixedOrders && Region.noSelect ops with
                  | true => evOpsB P C ops ops.size (Array.replicate ops.size false) s fun s' => run P C rs cuts false n k s'
                  | false => .fail
          | none => match drawA P ops with
            | some (lA, lB, BT) => evOpsA P C.pureT ops ((allocsOf P ops).map (aTmp P ops)) lA (clr ((allocsOf P ops).map (aTmp P ops)) s) fun s' =>
                evOps P C.pureT ops ((allocsOf P ops).filterMap fun i => ops[i]?) s' fun s' => evOpsS P C.pureT ops BT lB s' fun s' => run P C rs cuts false n k s'
            | none => match drawW P ops with
              | some l => evOps P C ops (l.filterMap fun i => ops[i]?) s fun s' => run P C rs cuts false n k s'
              | none => match P.follows .mixedOrders && Region.noSelect ops with
                | true => match hasInner ops with
                  | true => evOpsN P C ops (allocTs ops) ops.size true [] (Array.replicate ops.size false) s fun s' => run P C rs cuts false n k s'
                  | false => evOpsB P C ops ops.size (Array.replicate ops.size false) s fun s' => run P C rs cuts false n k s'
                | false => .fail
      | .block id body => run P C rs cuts fst n (.code body :: .inBlock id :: k) s
      | .loop body => .cut (2 * rid body) (.inLoop body :: k) s
      | .exit id => match exitTo id k with
        | some k' => run P C rs cuts false n k' s
        | none => .fail
      | .ret => evRes P rs s
      | _ => .fail
    | .inBlock _ :: k => run P C rs cuts false n k s
    | .inLoop body :: k => match fst with
      | true => run P C rs cuts false n (.code body :: .inLoop body :: k) s
      | false => .cut (2 * rid body) (.inLoop body :: k) s
    | _ => .fail
def bodyOf (f : Func) : Code := f.body.getD .skip
/-! ### where a cut stands -/
def occC (i : Nat) : Code → List Item → List (List Item)
  | .seq a b, k => occC i a (.code b :: k) ++ occC i b k
  | .cond _ x y, k => occC i x k ++ occC i y k
  | .block id c, k => occC i c (.inBlock id :: k)
  | .loop c, k => (if 2 * rid c = i then [.inLoop c :: k] else []) ++ occC i c (.inLoop c :: k)
  | .region id ops d, k => if 2 * id + 1 = i then [.code (.region id ops d) :: k] else []
  | _, _ => []
def tds (body : Code) (i : Nat) : List Item := (occC i body []).headD []
end Go.Rf
