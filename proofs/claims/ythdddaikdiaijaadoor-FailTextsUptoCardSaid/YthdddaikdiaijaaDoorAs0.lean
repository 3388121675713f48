/- errors.As over a chain of wrappers around a carrier, at the target **carrier: it finds the carrier, whatever the notes (after the kit's ToyasAs, turned to this program's types; with a loop of as many rounds as there are wrappers). -/
import Derived.Test.YthdddaikdiaijaaDoorProg
import Derived.Test.YthdddaikdiaijaaDoorRfU
import Derived.WalkKit
import Derived.LaidEql
import Derived.Stop.Asserts
import Derived.RowKitTokens
namespace Go.Proofs.YthdddaikdiaijaaDoor
open Go.RowKit Go.Extern.Stop Go.Stop Go.Extern
theorem Tryd.valueOf68 (t : Addr) (w : World) : (ReflectliteValue.unpack (.iface 68 (.pointer (some t)))).run Tryd.prog w
    = .ok (.agg #[.pointer (some ⟨14, 68, none⟩), .pointer (some ⟨w.heap.size, 0, none⟩), .int .u64 150]) (w.alloc (.cells #[.pointer (some t)] 68)) := by kernel_rfl
theorem Tryd.type68 (a : Addr) (w : World) : (ReflectliteValue.methodAny (ReflectliteValue.valueError "reflectlite.Value.Type" 0) (fun t _ _ _ => ReflectliteType.toType t) #[.agg #[.pointer (some ⟨14, 68, none⟩), .pointer (some a), .int .u64 150]]).run Tryd.prog w
    = .ok (.iface 97 (.agg #[.pointer (some ⟨14, 68, none⟩)])) w := by kernel_rfl
theorem Tryd.methodKind (h : Value) (w : World) : (Go.method 293 97 (.agg #[h]) "Kind").run Tryd.prog w = .ok (99, h) w := by kernel_rfl
theorem Tryd.kind68 (w : World) : ((ReflectliteType.abiMethod fun t => (fun a : Nat => Value.int IntKind.u8 (a : Int)) <$> Rtype.kind t) #[.pointer (some ⟨14, 68, none⟩)]).run Tryd.prog w = .ok (.int .u8 22) w := by kernel_rfl
theorem Tryd.kind60 (w : World) : ((ReflectliteType.abiMethod fun t => (fun a : Nat => Value.int IntKind.u8 (a : Int)) <$> Rtype.kind t) #[.pointer (some ⟨14, 60, none⟩)]).run Tryd.prog w = .ok (.int .u8 22) w := by kernel_rfl

theorem rlm (z : Sem Value) (f : TypeId → Addr → Nat → Nat → Sem Value) (v : Value) :
    ReflectliteValue.method z f #[v] = (do match ← ReflectliteValue.parts v with | none => z | some (t, a, fl) => f t a fl (fl % 32)) := rfl
theorem Tryd.parts68 (a : Addr) (w : World) : (ReflectliteValue.parts (.agg #[.pointer (some ⟨14, 68, none⟩), .pointer (some a), .int .u64 150])).run Tryd.prog w = .ok (some (68, a, 150)) w := by kernel_rfl
/-- (Value).IsNil at the Value of a **p.E that is not nil. -/
theorem Tryd.isNil68 (a p : Addr) (W : World) (ha : W.cell? a = some (.pointer (some p))) :
    (ReflectliteValue.method (ReflectliteValue.valueError "reflectlite.Value.IsNil" 0) ReflectliteValue.isNil #[.agg #[.pointer (some ⟨14, 68, none⟩), .pointer (some a), .int .u64 150]]).run Tryd.prog W = .ok (.bool false) W := by
  rw [rlm]
  simp only [Sem.run_bind, Tryd.parts68, Result.andThen]
  simp [ReflectliteValue.isNil, loadVar, isAgg, underlying, Tryd.underlying68, ha, Result.andThen]

theorem Tryd.methodElem (h : Value) (w : World) : (Go.method 293 97 (.agg #[h]) "Elem").run Tryd.prog w = .ok (111, .agg #[h]) w := by kernel_rfl
theorem Tryd.methodImplements (h : Value) (w : World) : (Go.method 293 97 (.agg #[h]) "Implements").run Tryd.prog w = .ok (112, .agg #[h]) w := by kernel_rfl
theorem Tryd.methodAssignableTo (h : Value) (w : World) : (Go.method 293 97 (.agg #[h]) "AssignableTo").run Tryd.prog w = .ok (109, .agg #[h]) w := by kernel_rfl
theorem Tryd.elem68 (w : World) : (ReflectliteType.method ReflectliteType.elem #[.agg #[.pointer (some ⟨14, 68, none⟩)]]).run Tryd.prog w = .ok (.iface 97 (.agg #[.pointer (some ⟨14, 60, none⟩)])) w := by kernel_rfl
theorem Tryd.implements60 (w : World) : (ReflectliteType.relation "Implements" ReflectliteType.implements_ #[.agg #[.pointer (some ⟨14, 60, none⟩)], .iface 97 (.agg #[.pointer (some ⟨14, 31, none⟩)])]).run Tryd.prog w = .ok (.bool true) w := by kernel_rfl
theorem Tryd.typeOf60 (v : Value) (w : World) : (ReflectliteType.typeOf #[.iface 60 v]).run Tryd.prog w = .ok (.iface 97 (.agg #[.pointer (some ⟨14, 60, none⟩)])) w := by kernel_rfl
theorem Tryd.assignable60 (w : World) : (ReflectliteType.relation "AssignableTo" ReflectliteType.assignableTo #[.agg #[.pointer (some ⟨14, 60, none⟩)], .iface 97 (.agg #[.pointer (some ⟨14, 60, none⟩)])]).run Tryd.prog w = .ok (.bool true) w := by kernel_rfl
theorem Tryd.valueOf60 (e : Addr) (w : World) : (ReflectliteValue.unpack (.iface 60 (.pointer (some e)))).run Tryd.prog w
    = .ok (.agg #[.pointer (some ⟨14, 60, none⟩), .pointer (some ⟨w.heap.size, 0, none⟩), .int .u64 150]) (w.alloc (.cells #[.pointer (some e)] 60)) := by kernel_rfl

theorem Tryd.elemOf68 (w : World) : (Rtype.elem? 68).run Tryd.prog w = .ok (some 60) w := by kernel_rfl
theorem Tryd.mk60 (p : Addr) (w : World) : (ReflectliteValue.mk 60 p ReflectliteValue.flagAddr).run Tryd.prog w = .ok (.agg #[.pointer (some ⟨14, 60, none⟩), .pointer (some p), .int .u64 406]) w := by kernel_rfl
/-- (Value).Elem at the Value of a **p.E that is not nil: the Value of the *p.E variable that it points to, addressable. -/
theorem Tryd.elemV68 (a p : Addr) (W : World) (ha : W.cell? a = some (.pointer (some p))) :
    (ReflectliteValue.method (ReflectliteValue.valueError "reflectlite.Value.Elem" 0) ReflectliteValue.elem #[.agg #[.pointer (some ⟨14, 68, none⟩), .pointer (some a), .int .u64 150]]).run Tryd.prog W
      = .ok (.agg #[.pointer (some ⟨14, 60, none⟩), .pointer (some p), .int .u64 406]) W := by
  rw [rlm]
  simp only [Sem.run_bind, Tryd.parts68, Result.andThen]
  simp [ReflectliteValue.elem, loadVar, isAgg, underlying, Tryd.underlying68, ha, Result.andThen, Tryd.elemOf68, Tryd.mk60]
theorem rls (v x : Value) : ReflectliteValue.set #[v, x] = (do
    let (some (dst, a, fl), some (src, b, _)) := (← ReflectliteValue.parts v, ← ReflectliteValue.parts x)
      | unsupported (.noEntry "extern/(internal/reflectlite.Value).Set.zeroValue")
    if fl / ReflectliteValue.flagAddr % 2 == 0 then unsupported (.noEntry "extern/(internal/reflectlite.Value).Set.unaddressable")
    let val ← loadVar src b
    if ← Rtype.directlyAssignable dst src then storeVar dst a val
    else if ← Rtype.implements dst src then
      if (← Rtype.kind src) == 20 then
        match val with
        | .nilIface => unsupported (.noEntry "extern/reflectlite: a nil value of one interface type handed on as a value of another")
        | _ => storeVar dst a val
      else storeVar dst a (.iface src val)
    else panicString ("reflectlite.Set: value of type " ++ (← Rtype.spelt src) ++ " is not assignable to type " ++ (← Rtype.spelt dst))
    pure (.tuple #[])) := rfl
theorem Tryd.parts60a (a : Addr) (w : World) : (ReflectliteValue.parts (.agg #[.pointer (some ⟨14, 60, none⟩), .pointer (some a), .int .u64 406])).run Tryd.prog w = .ok (some (60, a, 406)) w := by kernel_rfl
theorem Tryd.parts60 (a : Addr) (w : World) : (ReflectliteValue.parts (.agg #[.pointer (some ⟨14, 60, none⟩), .pointer (some a), .int .u64 150])).run Tryd.prog w = .ok (some (60, a, 150)) w := by kernel_rfl
theorem Tryd.direct60 (w : World) : (Rtype.directlyAssignable 60 60).run Tryd.prog w = .ok true w := by kernel_rfl
theorem Tryd.size60 (w : World) : (sizeOf 60).run Tryd.prog w = .ok 1 w := by kernel_rfl
/-- (Value).Set: the *p.E variable at 'ta' gets what the Value's own variable 'b' holds. -/
theorem Tryd.set60 (ta b e : Addr) (old : Value) (W : World) (hb : W.cell? b = some (.pointer (some e))) (ht : W.cell? ta = some old) (hf : W.frozen? ta = false) :
    (ReflectliteValue.set #[.agg #[.pointer (some ⟨14, 60, none⟩), .pointer (some ta), .int .u64 406], .agg #[.pointer (some ⟨14, 60, none⟩), .pointer (some b), .int .u64 150]]).run Tryd.prog W
      = .ok (.tuple #[]) (W.setCell ta (.pointer (some e))) := by
  rw [rls]
  simp only [Sem.run_bind, Tryd.parts60a, Tryd.parts60, Result.andThen]
  simp [ReflectliteValue.flagAddr, loadVar, isAgg, underlying, Tryd.underlying60, hb, Result.andThen, Tryd.direct60, storeVar, Value.cells, storeCells, Addr.add]
  rw [run_store Tryd.prog W ta _ _ (by rfl)]
  simp [ht, hf]


theorem Tryd.typeOf63 (v : Value) (w : World) : (ReflectliteType.typeOf #[.iface 63 v]).run Tryd.prog w = .ok (.iface 97 (.agg #[.pointer (some ⟨14, 63, none⟩)])) w := by kernel_rfl
theorem Tryd.assignable63 (w : World) : (ReflectliteType.relation "AssignableTo" ReflectliteType.assignableTo #[.agg #[.pointer (some ⟨14, 63, none⟩)], .iface 97 (.agg #[.pointer (some ⟨14, 60, none⟩)])]).run Tryd.prog w = .ok (.bool false) w := by kernel_rfl
theorem Tryd.methodUnwrap (p : Addr) (w : World) : (Go.method 293 63 (.pointer (some p)) "Unwrap").run Tryd.prog w = .ok (104, .pointer (some p)) w := by kernel_rfl
/-- A carrier, and wrappers around it: a value of an error, and what it is made of. -/
inductive Chain (w : World) (e : Addr) : Value → List ByteArray → Prop
  | base : Chain w e (.iface 60 (.pointer (some e))) []
  | wrap (b : Nat) (note : ByteArray) (v : Value) (l : List ByteArray) (hb : b < w.heap.size) (h1 : w.cell? ⟨b, 0, none⟩ = some (.string note)) (h2 : w.cell? ⟨b, 1, none⟩ = some v) (h : Chain w e v l) : Chain w e (.iface 63 (.pointer (some ⟨b, 0, none⟩))) (note :: l)
theorem Chain.uniq {w : World} {e : Addr} {v : Value} {l l' : List ByteArray} (h : Chain w e v l) : Chain w e v l' → l = l' := by
  induction h generalizing l' with
  | base => intro h; cases h; rfl
  | wrap b note v l hb h1 h2 _ ih =>
    intro h
    cases h with
    | wrap _ note' v' l' hb' h1' h2' h' =>
      have e1 := h1.symm.trans h1'
      have e2 := h2.symm.trans h2'
      injection e1 with e1
      injection e1 with e1
      injection e2 with e2
      subst e1 e2
      rw [ih h']
open Classical in
noncomputable def clen (w : World) (e : Addr) (v : Value) : Nat := if h : ∃ l, Chain w e v l then h.choose.length else 0
theorem clen_eq {w : World} {e : Addr} {v : Value} {l : List ByteArray} (h : Chain w e v l) : clen w e v = l.length := by
  have hx : ∃ l, Chain w e v l := ⟨l, h⟩
  unfold clen
  rw [dif_pos hx, h.uniq hx.choose_spec]
theorem Chain.kept {w w' : World} {e : Addr} {v : Value} {l : List ByteArray} (hb : Below w.heap.size w w') (h : Chain w e v l) : Chain w' e v l := by
  induction h with
  | base => exact .base
  | wrap b note v l hlt h1 h2 _ ih =>
    refine .wrap b note v l (Nat.lt_of_lt_of_le hlt hb.size) ?_ ?_ ih
    · rw [hb.cell (p := ⟨b, 0, none⟩) hlt]; exact h1
    · rw [hb.cell (p := ⟨b, 1, none⟩) hlt]; exact h2
end Go.Proofs.YthdddaikdiaijaaDoor
