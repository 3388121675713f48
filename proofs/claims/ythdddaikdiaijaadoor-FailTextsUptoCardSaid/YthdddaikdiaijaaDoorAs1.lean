/- errors.as over a chain of wrappers around a carrier: it finds the carrier. -/
import Derived.Test.YthdddaikdiaijaaDoorAs0
namespace Go.Proofs.YthdddaikdiaijaaDoor
open Go.RowKit Go.Extern.Stop Go.Stop Go.Extern
theorem unwrap_ok (b : Nat) (v : Value) (w : World) (h : w.cell? ⟨b, 1, none⟩ = some v) :
    Calls Tryd.prog 104 #[.pointer (some ⟨b, 0, none⟩)] w fun e w' => e = .returned v ∧ w' = w := by
  go_enter Tryd.func104, Tryd.ntmps104
  go_wp2
  go_ret
  exact ⟨rfl, rfl⟩
theorem Chain.notNil {w : World} {e : Addr} {v : Value} {l : List ByteArray} (h : Chain w e v l) : ∃ t b, v = .iface t (.pointer (some b)) := by
  cases h with
  | base => exact ⟨_, _, rfl⟩
  | wrap b => exact ⟨_, _, rfl⟩
theorem Tryd.noAs (v : Value) (xT : TypeId) (w : World) : (Instr.typeAssert (.iface 63 v) xT 102 true).run Tryd.prog w = .ok (.tuple #[.nilIface, .bool false]) w :=
  run_typeAssert_lacksB Tryd.underlying102 (by kernel_rfl) (by kernel_rfl) v xT w
theorem Tryd.isUnwrap (v : Value) (xT : TypeId) (w : World) : (Instr.typeAssert (.iface 63 v) xT 105 true).run Tryd.prog w = .ok (.tuple #[.iface 63 v, .bool true]) w :=
  run_typeAssert_hasB Tryd.underlying105 (by kernel_rfl) v xT w
set_option maxRecDepth 100000 in
set_option maxHeartbeats 4000000 in
theorem as_chain (e t a : Addr) (v old : Value) (l : List ByteArray) (w : World) (hv : Chain w e v l) (ha : w.cell? a = some (.pointer (some t))) (ht : w.cell? t = some old) (hf : w.frozen? t = false) :
    Calls Tryd.prog 40 #[v, .iface 68 (.pointer (some t)), .agg #[.pointer (some ⟨14, 68, none⟩), .pointer (some a), .int .u64 150], .iface 97 (.agg #[.pointer (some ⟨14, 60, none⟩)])] w fun ev w' =>
      ev = .returned (.bool true) ∧ w' = ((w.alloc (.cells #[.pointer (some ⟨14, 68, none⟩), .pointer (some a), .int .u64 150] 82)).alloc (.cells #[.pointer (some e)] 60)).setCell t (.pointer (some e)) := by
  have h37 := @run_callFunc_extern Tryd.prog 37 _ (fun args => ReflectliteValue.unpack (args.getD 0 (.tuple #[]))) Tryd.func37 (by kernel_rfl) (by kernel_rfl) (by kernel_rfl) (by kernel_rfl)
  have h46 := @run_callFunc_extern Tryd.prog 46 _ ReflectliteType.typeOf Tryd.func46 (by kernel_rfl) (by kernel_rfl) (by kernel_rfl) (by kernel_rfl)
  have h109 := @run_callFunc_extern Tryd.prog 109 _ (ReflectliteType.relation "AssignableTo" ReflectliteType.assignableTo) Tryd.func109 (by kernel_rfl) (by kernel_rfl) (by kernel_rfl) (by kernel_rfl)
  have h47 := @run_callFunc_extern Tryd.prog 47 _ (ReflectliteValue.method (ReflectliteValue.valueError "reflectlite.Value.Elem" 0) ReflectliteValue.elem) Tryd.func47 (by kernel_rfl) (by kernel_rfl) (by kernel_rfl) (by kernel_rfl)
  have h48 := @run_callFunc_extern Tryd.prog 48 _ ReflectliteValue.set Tryd.func48 (by kernel_rfl) (by kernel_rfl) (by kernel_rfl) (by kernel_rfl)
  have tO := Tryd.typeOf60
  have tO3 := Tryd.typeOf63
  have mA := Tryd.methodAssignableTo
  have mU := Tryd.methodUnwrap
  have a60 := Tryd.assignable60
  have a63 := Tryd.assignable63
  have v60 := Tryd.valueOf60
  have nA := Tryd.noAs
  have iU := Tryd.isUnwrap
  have hal : a.block < w.heap.size := by
    rcases Nat.lt_or_ge a.block w.heap.size with h | h
    · exact h
    · simp [World.cell?, Array.getElem?_eq_none h] at ha
  have htl : t.block < w.heap.size := by
    rcases Nat.lt_or_ge t.block w.heap.size with h | h
    · exact h
    · simp [World.cell?, Array.getElem?_eq_none h] at ht
  have hc : Chain (w.alloc (.cells #[.pointer (some ⟨14, 68, none⟩), .pointer (some a), .int .u64 150] 82)) e v l := hv.kept ((Below.refl _ _).alloc (Nat.le_refl _) _)
  have el := Tryd.elemV68 a t (w.alloc (.cells #[.pointer (some ⟨14, 68, none⟩), .pointer (some a), .int .u64 150] 82)) (by rw [World.cell?_alloc_lt _ _ a hal]; exact ha)
  have st := Tryd.set60 t ⟨w.heap.size + 1, 0, none⟩ e old ((w.alloc (.cells #[.pointer (some ⟨14, 68, none⟩), .pointer (some a), .int .u64 150] 82)).alloc (.cells #[.pointer (some e)] 60))
    (by rw [World.cell?_alloc_at _ _ _ _ (by simp)]; rfl)
    (by rw [World.cell?_alloc_lt _ _ t (by simp; omega), World.cell?_alloc_lt _ _ t htl]; exact ht)
    (by rw [World.frozen?_alloc_old _ _ t (by simp; omega), World.frozen?_alloc_old _ _ t (Nat.ne_of_lt htl)]; exact hf)
  go_enter Tryd.func40, Tryd.ntmps40
  go_wp2
  go_loop [0] (fun v => ∃ l, Chain (w.alloc (.cells #[.pointer (some ⟨14, 68, none⟩), .pointer (some a), .int .u64 150] 82)) e v l) (fun v => clen (w.alloc (.cells #[.pointer (some ⟨14, 68, none⟩), .pointer (some a), .int .u64 150] 82)) e v)
  case atStart => exact ⟨l, hc⟩
  case round =>
    clear hc hv l v
    obtain ⟨l, hl⟩ := hrel
    cases hl with
    | base =>
      go_wp2
      go_ret
      exact ⟨rfl, rfl⟩
    | wrap b note v l hb h1 h2 h =>
      obtain ⟨tv, bv, rfl⟩ := h.notNil
      go_wp2_with (go_at_call 104; refine (unwrap_ok b _ _ h2).mono ?_; rintro e w' ⟨rfl, rfl⟩)
      go_round
      case rel => exact ⟨l, h⟩
      case measure =>
        have m1 := clen_eq h
        have m2 := clen_eq (Chain.wrap b note _ l hb h1 h2 h)
        have m3 : clen (w.alloc (.cells #[.pointer (some ⟨14, 68, none⟩), .pointer (some a), .int .u64 150] 82)) e (.iface tv (.pointer (some bv))) < clen (w.alloc (.cells #[.pointer (some ⟨14, 68, none⟩), .pointer (some a), .int .u64 150] 82)) e (.iface 63 (.pointer (some ⟨b, 0, none⟩))) := by
          rw [m1, m2]
          simp
        exact m3
set_option maxRecDepth 100000 in
set_option maxHeartbeats 4000000 in
theorem errorsAs_chain (e t : Addr) (v old : Value) (l : List ByteArray) (w : World) (hv : Chain w e v l) (hg : w.cell? ⟨0, 0, none⟩ = some (.iface 97 (.agg #[.pointer (some ⟨14, 31, none⟩)]))) (ht0 : w.cell? t = some old) (hf0 : w.frozen? t = false) :
    Calls Tryd.prog 27 #[v, .iface 68 (.pointer (some t))] w fun ev w' => ev = .returned (.bool true) ∧ w' = ((((w.alloc (.cells #[.pointer (some t)] 68)).alloc (.cells #[.pointer (some ⟨14, 68, none⟩), .pointer (some ⟨w.heap.size, 0, none⟩), .int .u64 150] 82)).alloc (.cells #[.pointer (some ⟨14, 68, none⟩), .pointer (some ⟨w.heap.size, 0, none⟩), .int .u64 150] 82)).alloc (.cells #[.pointer (some e)] 60)).setCell t (.pointer (some e)) := by
  have h37 := @run_callFunc_extern Tryd.prog 37 _ (fun args => ReflectliteValue.unpack (args.getD 0 (.tuple #[]))) Tryd.func37 (by kernel_rfl) (by kernel_rfl) (by kernel_rfl) (by kernel_rfl)
  have h38 := @run_callFunc_extern Tryd.prog 38 _ (ReflectliteValue.methodAny (ReflectliteValue.valueError "reflectlite.Value.Type" 0) (fun t _ _ _ => ReflectliteType.toType t)) Tryd.func38 (by kernel_rfl) (by kernel_rfl) (by kernel_rfl) (by kernel_rfl)
  have h39 := @run_callFunc_extern Tryd.prog 39 _ (ReflectliteValue.method (ReflectliteValue.valueError "reflectlite.Value.IsNil" 0) ReflectliteValue.isNil) Tryd.func39 (by kernel_rfl) (by kernel_rfl) (by kernel_rfl) (by kernel_rfl)
  have h99 := @run_callFunc_extern Tryd.prog 99 _ (ReflectliteType.abiMethod fun t => do pure (.int .u8 (← Rtype.kind t))) Tryd.func99 (by kernel_rfl) (by kernel_rfl) (by kernel_rfl) (by kernel_rfl)
  have h111 := @run_callFunc_extern Tryd.prog 111 _ (ReflectliteType.method ReflectliteType.elem) Tryd.func111 (by kernel_rfl) (by kernel_rfl) (by kernel_rfl) (by kernel_rfl)
  have h112 := @run_callFunc_extern Tryd.prog 112 _ (ReflectliteType.relation "Implements" ReflectliteType.implements_) Tryd.func112 (by kernel_rfl) (by kernel_rfl) (by kernel_rfl) (by kernel_rfl)
  have f6 := Tryd.valueOf68
  have f7 := Tryd.type68
  have mK := Tryd.methodKind
  have mE := Tryd.methodElem
  have mI := Tryd.methodImplements
  have k68 := Tryd.kind68
  have k60 := Tryd.kind60
  have e68 := Tryd.elem68
  have i60 := Tryd.implements60
  have n8 := Tryd.isNil68 ⟨w.heap.size, 0, none⟩ t ((w.alloc (.cells #[.pointer (some t)] 68)).alloc (.cells #[.pointer (some ⟨14, 68, none⟩), .pointer (some ⟨w.heap.size, 0, none⟩), .int .u64 150] 82)) (by simp)
  have hlt : 0 < w.heap.size := by
    rcases Nat.eq_zero_or_pos w.heap.size with h0 | h
    · simp [World.cell?, h0] at hg
    · exact h
  have hg2 : ((w.alloc (.cells #[.pointer (some t)] 68)).alloc (.cells #[.pointer (some ⟨14, 68, none⟩), .pointer (some ⟨w.heap.size, 0, none⟩), .int .u64 150] 82)).cell? ⟨0, 0, none⟩ = some (.iface 97 (.agg #[.pointer (some ⟨14, 31, none⟩)])) := by
    rw [World.cell?_alloc_lt _ _ ⟨0, 0, none⟩ (by simp), World.cell?_alloc_lt _ _ ⟨0, 0, none⟩ hlt]; exact hg
  have htl : t.block < w.heap.size := by
    rcases Nat.lt_or_ge t.block w.heap.size with h | h
    · exact h
    · simp [World.cell?, Array.getElem?_eq_none h] at ht0
  have hc := hv.kept ((((Below.refl w.heap.size w).alloc (Nat.le_refl _) (.cells #[.pointer (some t)] 68))).alloc (by simp) (.cells #[.pointer (some ⟨14, 68, none⟩), .pointer (some ⟨w.heap.size, 0, none⟩), .int .u64 150] 82))
  have has := as_chain e t ⟨w.heap.size, 0, none⟩ v old l ((w.alloc (.cells #[.pointer (some t)] 68)).alloc (.cells #[.pointer (some ⟨14, 68, none⟩), .pointer (some ⟨w.heap.size, 0, none⟩), .int .u64 150] 82)) hc
    (by rw [World.cell?_alloc_lt _ _ ⟨w.heap.size, 0, none⟩ (by simp)]; simp)
    (by rw [World.cell?_alloc_lt _ _ t (by simp; omega), World.cell?_alloc_lt _ _ t htl]; exact ht0)
    (by rw [World.frozen?_alloc_old _ _ t (by simp; omega), World.frozen?_alloc_old _ _ t (Nat.ne_of_lt htl)]; exact hf0)
  obtain ⟨tv, bv, rfl⟩ := hv.notNil
  clear hc
  go_enter Tryd.func27, Tryd.ntmps27
  go_wp2_with (go_at_call 40; refine has.mono ?_; rintro e w' ⟨rfl, rfl⟩)
  go_ret
  exact ⟨rfl, rfl⟩
end Go.Proofs.YthdddaikdiaijaaDoor
