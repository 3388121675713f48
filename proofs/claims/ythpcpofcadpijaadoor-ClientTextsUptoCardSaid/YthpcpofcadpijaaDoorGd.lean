/- The client's functions: printed, and checked by the kernel. -/
import Derived.Test.YthpcpofcadpijaaDoorGc
namespace Go.Proofs.YthpcpofcadpijaaDoor
open Go.Rf
/- slices.Clone[[]convoy/api.Do,convoy/api.Do] -/
noncomputable def c31 : Cfg := ⟨31, Tryd.f31, [(.sl 29 (.agg (.pair (.int .i64) (.pair (.agg (.pair (.int .u16) .str)) (.pair (.int .i64) (.int .i64))))))], [(.sl 29 (.agg (.pair (.int .i64) (.pair (.agg (.pair (.int .u16) .str)) (.pair (.int .i64) (.int .i64))))))], 3, [], []⟩
noncomputable def T31 (_ : Nat) : Tab := ⟨[], []⟩
noncomputable def e31 (n : Nat) : Entry := c31.entry Tryd.prog (T31 n) n
theorem ok31 {W0 : World} (n : Nat) : FnOK Tryd.prog W0 (e31 n) := c31.sound .nil n Tryd.func31 (by kernel_rfl) (by kernel_rfl)
noncomputable def f31 (n : Nat) (s : List (Int × ((Int × ByteArray) × (Int × Int)))) : Option (List (Int × ((Int × ByteArray) × (Int × Int)))) := c31.f Tryd.prog (T31 n) n s
theorem f31_eq (n : Nat) (s : List (Int × ((Int × ByteArray) × (Int × Int)))) : f31 n s =
  bif s.isEmpty then
   Go.Rf.both (some [])
    (bif decide (((0 : Nat) + s.length) * (48 : Nat) ≤ Go.Rf.maxBytes) then
     some ([] ++ s)
    else
     none)
  else
   bif decide (((0 : Nat) + s.length) * (48 : Nat) ≤ Go.Rf.maxBytes) then
    some ([] ++ s)
   else
    none := by kernel_rfl
/- (*convoy/client.Client).place -/
noncomputable def c36z : Cfg := ⟨36, Tryd.f36, [.nilp, (.int .i64)], [(.int .i64)], 4, [], []⟩
noncomputable def T36z (_ : Nat) : Tab := ⟨[], []⟩
noncomputable def e36z (n : Nat) : Entry := c36z.entry Tryd.prog (T36z n) n
theorem ok36z {W0 : World} (n : Nat) : FnOK Tryd.prog W0 (e36z n) := c36z.sound .nil n Tryd.func36 (by kernel_rfl) (by kernel_rfl)
noncomputable def f36z (n : Nat) (c : Unit) (slot : Int) : Option (Int) := c36z.f Tryd.prog (T36z n) n (c, slot)
theorem f36z_eq (n : Nat) (c : Unit) (slot : Int) : f36z n c slot =
  some (1 : Int) := by kernel_rfl
/- (*convoy/client.Client).Next -/
noncomputable def c13z : Cfg := ⟨13, Tryd.f13, [.nilp], [(.agg (.pair (.int .i64) (.pair (.agg (.pair (.int .u16) .str)) (.pair (.int .i64) (.int .i64))))), (.int .i64), .bool], 6, [], []⟩
noncomputable def T13z (_ : Nat) : Tab := ⟨[], []⟩
noncomputable def e13z (n : Nat) : Entry := c13z.entry Tryd.prog (T13z n) n
theorem ok13z {W0 : World} (n : Nat) : FnOK Tryd.prog W0 (e13z n) := c13z.sound .nil n Tryd.func13 (by kernel_rfl) (by kernel_rfl)
noncomputable def f13z (n : Nat) (c : Unit) : Option ((Int × ((Int × ByteArray) × (Int × Int))) × Int × Bool) := c13z.f Tryd.prog (T13z n) n c
theorem f13z_eq (n : Nat) (c : Unit) : f13z n c =
  some (((0 : Int), ((0 : Int), ByteArray.empty), (0 : Int), (0 : Int)), (0 : Int), false) := by kernel_rfl
/- (*convoy/client.Client).Token -/
noncomputable def c14z : Cfg := ⟨14, Tryd.f14, [.nilp], [(.int .i64)], 4, [], []⟩
noncomputable def T14z (_ : Nat) : Tab := ⟨[], []⟩
noncomputable def e14z (n : Nat) : Entry := c14z.entry Tryd.prog (T14z n) n
theorem ok14z {W0 : World} (n : Nat) : FnOK Tryd.prog W0 (e14z n) := c14z.sound .nil n Tryd.func14 (by kernel_rfl) (by kernel_rfl)
noncomputable def f14z (n : Nat) (c : Unit) : Option (Int) := c14z.f Tryd.prog (T14z n) n c
theorem f14z_eq (n : Nat) (c : Unit) : f14z n c =
  some (0 : Int) := by kernel_rfl
/- (*convoy/client.Client).Log -/
noncomputable def c15z : Cfg := ⟨15, Tryd.f15, [.nilp], [(.sl 48 (.agg (.pair (.int .i64) (.pair (.int .i64) (.pair (.agg (.pair (.int .i64) (.agg (.pair (.int .i64) (.pair (.int .i64) (.int .i64)))))) (.int .i64))))))], 4, [], []⟩
noncomputable def T15z (_ : Nat) : Tab := ⟨[], []⟩
noncomputable def e15z (n : Nat) : Entry := c15z.entry Tryd.prog (T15z n) n
theorem ok15z {W0 : World} (n : Nat) : FnOK Tryd.prog W0 (e15z n) := c15z.sound .nil n Tryd.func15 (by kernel_rfl) (by kernel_rfl)
noncomputable def f15z (n : Nat) (c : Unit) : Option (List (Int × (Int × ((Int × (Int × (Int × Int))) × Int)))) := c15z.f Tryd.prog (T15z n) n c
theorem f15z_eq (n : Nat) (c : Unit) : f15z n c =
  some [] := by kernel_rfl
/- (*convoy/client.Client).Take -/
noncomputable def c16z : Cfg := ⟨16, Tryd.f16, [.nilp, (.int .i64)], [(.agg (.pair (.int .i64) (.pair (.int .i64) (.pair (.agg (.pair (.int .i64) (.agg (.pair (.int .i64) (.pair (.int .i64) (.int .i64)))))) (.int .i64))))), (.int .i64), (.int .i64)], 6, [], []⟩
noncomputable def T16z (n : Nat) : Tab := ⟨[e36z n], []⟩
noncomputable def e16z (n : Nat) : Entry := c16z.entry Tryd.prog (T16z n) n
theorem ok16z {W0 : World} (n : Nat) : FnOK Tryd.prog W0 (e16z n) := c16z.sound (.cons (ok36z n) .nil) n Tryd.func16 (by kernel_rfl) (by kernel_rfl)
noncomputable def f16z (n : Nat) (c : Unit) (slot : Int) : Option ((Int × (Int × ((Int × (Int × (Int × Int))) × Int))) × Int × Int) := c16z.f Tryd.prog (T16z n) n (c, slot)
theorem f16z_eq (n : Nat) (c : Unit) (slot : Int) : f16z n c slot =
  (f36z n () slot).bind fun r1 =>
  bif r1 != (0 : Int) then
   some (((0 : Int), (0 : Int), ((0 : Int), (0 : Int), (0 : Int), (0 : Int)), (0 : Int)), (0 : Int), r1)
  else
   none := by kernel_rfl
/- (*convoy/client.Client).Go -/
noncomputable def c17z : Cfg := ⟨17, Tryd.f17, [.nilp], [.bool], 5, [], []⟩
noncomputable def T17z (n : Nat) : Tab := ⟨[e13z n], []⟩
noncomputable def e17z (n : Nat) : Entry := c17z.entry Tryd.prog (T17z n) n
theorem ok17z {W0 : World} (n : Nat) : FnOK Tryd.prog W0 (e17z n) := c17z.sound (.cons (ok13z n) .nil) n Tryd.func17 (by kernel_rfl) (by kernel_rfl)
noncomputable def f17z (n : Nat) (c : Unit) : Option (Bool) := c17z.f Tryd.prog (T17z n) n c
theorem f17z_eq (n : Nat) (c : Unit) : f17z n c =
  (f13z n ()).bind fun r1 =>
  bif r1.snd.snd then
   none
  else
   some r1.snd.snd := by kernel_rfl
/- (*convoy/client.Client).Use -/
noncomputable def c18z : Cfg := ⟨18, Tryd.f18, [.nilp, (.int .i64)], [(.int .i64)], 5, [], []⟩
noncomputable def T18z (_ : Nat) : Tab := ⟨[], []⟩
noncomputable def e18z (n : Nat) : Entry := c18z.entry Tryd.prog (T18z n) n
theorem ok18z {W0 : World} (n : Nat) : FnOK Tryd.prog W0 (e18z n) := c18z.sound .nil n Tryd.func18 (by kernel_rfl) (by kernel_rfl)
noncomputable def f18z (n : Nat) (c : Unit) (token : Int) : Option (Int) := c18z.f Tryd.prog (T18z n) n (c, token)
theorem f18z_eq (n : Nat) (c : Unit) (token : Int) : f18z n c token =
  some (1 : Int) := by kernel_rfl
/- (*convoy/client.Client).Had -/
noncomputable def c19z : Cfg := ⟨19, Tryd.f19, [.nilp, (.agg (.pair (.int .i64) (.pair (.int .i64) (.pair (.agg (.pair (.int .i64) (.agg (.pair (.int .i64) (.pair (.int .i64) (.int .i64)))))) (.int .i64)))))], [(.int .i64)], 6, [], []⟩
noncomputable def T19z (_ : Nat) : Tab := ⟨[], []⟩
noncomputable def e19z (n : Nat) : Entry := c19z.entry Tryd.prog (T19z n) n
theorem ok19z {W0 : World} (n : Nat) : FnOK Tryd.prog W0 (e19z n) := c19z.sound .nil n Tryd.func19 (by kernel_rfl) (by kernel_rfl)
noncomputable def f19z (n : Nat) (c : Unit) (g : (Int × (Int × ((Int × (Int × (Int × Int))) × Int)))) : Option (Int) := c19z.f Tryd.prog (T19z n) n (c, g)
theorem f19z_eq (n : Nat) (c : Unit) (g : (Int × (Int × ((Int × (Int × (Int × Int))) × Int)))) : f19z n c g =
  some (1 : Int) := by kernel_rfl
/- (*convoy/client.Client).Put -/
noncomputable def c20z : Cfg := ⟨20, Tryd.f20, [.nilp, (.int .i64), (.int .i64)], [(.int .i64)], 6, [], []⟩
noncomputable def T20z (n : Nat) : Tab := ⟨[e36z n], []⟩
noncomputable def e20z (n : Nat) : Entry := c20z.entry Tryd.prog (T20z n) n
theorem ok20z {W0 : World} (n : Nat) : FnOK Tryd.prog W0 (e20z n) := c20z.sound (.cons (ok36z n) .nil) n Tryd.func20 (by kernel_rfl) (by kernel_rfl)
noncomputable def f20z (n : Nat) (c : Unit) (slot : Int) (caller : Int) : Option (Int) := c20z.f Tryd.prog (T20z n) n (c, slot, caller)
theorem f20z_eq (n : Nat) (c : Unit) (slot : Int) (caller : Int) : f20z n c slot caller =
  (f36z n () slot).bind fun r1 =>
  bif r1 != (0 : Int) then
   some r1
  else
   bif decide (caller < (1 : Int)) then
    some (1 : Int)
   else
    none := by kernel_rfl
/- (*convoy/client.Client).Fill -/
noncomputable def c21z : Cfg := ⟨21, Tryd.f21, [.nilp, (.int .i64), (.int .i64), (.agg (.pair (.int .i64) (.pair (.int .i64) (.pair (.agg (.pair (.int .i64) (.agg (.pair (.int .i64) (.pair (.int .i64) (.int .i64)))))) (.int .i64)))))], [.bool], 6, [], []⟩
noncomputable def T21z (n : Nat) : Tab := ⟨[e36z n], []⟩
noncomputable def e21z (n : Nat) : Entry := c21z.entry Tryd.prog (T21z n) n
theorem ok21z {W0 : World} (n : Nat) : FnOK Tryd.prog W0 (e21z n) := c21z.sound (.cons (ok36z n) .nil) n Tryd.func21 (by kernel_rfl) (by kernel_rfl)
noncomputable def f21z (n : Nat) (c : Unit) (slot : Int) (caller : Int) (g : (Int × (Int × ((Int × (Int × (Int × Int))) × Int)))) : Option (Bool) := c21z.f Tryd.prog (T21z n) n (c, slot, caller, g)
theorem f21z_eq (n : Nat) (c : Unit) (slot : Int) (caller : Int) (g : (Int × (Int × ((Int × (Int × (Int × Int))) × Int)))) : f21z n c slot caller g =
  (f36z n () slot).bind fun r1 =>
  bif r1 != (0 : Int) then
   some false
  else
   none := by kernel_rfl
/- (*convoy/client.Client).Clone -/
noncomputable def c22z : Cfg := ⟨22, Tryd.f22, [.nilp], [.nilp], 5, [], []⟩
noncomputable def T22z (n : Nat) : Tab := ⟨[e31 n], []⟩
noncomputable def e22z (n : Nat) : Entry := c22z.entry Tryd.prog (T22z n) n
theorem ok22z {W0 : World} (n : Nat) : FnOK Tryd.prog W0 (e22z n) := c22z.sound (.cons (ok31 n) .nil) n Tryd.func22 (by kernel_rfl) (by kernel_rfl)
noncomputable def f22z (n : Nat) (c : Unit) : Option (Unit) := c22z.f Tryd.prog (T22z n) n c
theorem f22z_eq (n : Nat) (c : Unit) : f22z n c =
  some () := by kernel_rfl
/- convoy/client.New -/
noncomputable def c9o : OCfg := ⟨9, Tryd.f9, ⟨33, 6, [(0, (.val (.sl 29 (.agg (.pair (.int .i64) (.pair (.agg (.pair (.int .u16) .str)) (.pair (.int .i64) (.int .i64))))))))], []⟩, [⟨3, 3, [(0, .nilp), (1, (.val (.int .i64))), (2, (.val (.int .i64)))], []⟩, ⟨3, 3, [(0, (.ptr 1021 [])), (1, (.val (.int .i64))), (2, (.val (.int .i64)))], [(1021, .box (.agg (.pair (.val (.sl 29 (.agg (.pair (.int .i64) (.pair (.agg (.pair (.int .u16) .str)) (.pair (.int .i64) (.int .i64))))))) (.pair (.val (.int .i64)) (.pair (.val (.int .i64)) (.pair (.rs 702103) (.val (.arr 16 (.agg (.pair (.int .i64) (.pair (.int .i64) (.agg (.pair (.int .i64) (.pair (.int .i64) (.pair (.agg (.pair (.int .i64) (.agg (.pair (.int .i64) (.pair (.int .i64) (.int .i64)))))) (.int .i64)))))))))))))))), (702103, .row 48 (.agg (.pair (.int .i64) (.pair (.int .i64) (.pair (.agg (.pair (.int .i64) (.agg (.pair (.int .i64) (.pair (.int .i64) (.int .i64)))))) (.int .i64))))))]⟩], [], [(12, ⟨33, 6, [(7, (.ptr 1021 [])), (22, (.val (.int .i64)))], [(1021, .box (.agg (.pair (.val (.sl 29 (.agg (.pair (.int .i64) (.pair (.agg (.pair (.int .u16) .str)) (.pair (.int .i64) (.int .i64))))))) (.pair (.val (.int .i64)) (.pair (.val (.int .i64)) (.pair (.rs 702103) (.val (.arr 16 (.agg (.pair (.int .i64) (.pair (.int .i64) (.agg (.pair (.int .i64) (.pair (.int .i64) (.pair (.agg (.pair (.int .i64) (.agg (.pair (.int .i64) (.pair (.int .i64) (.int .i64)))))) (.int .i64)))))))))))))))), (702103, .row 48 (.agg (.pair (.int .i64) (.pair (.int .i64) (.pair (.agg (.pair (.int .i64) (.agg (.pair (.int .i64) (.pair (.int .i64) (.int .i64)))))) (.int .i64))))))]⟩)]⟩
noncomputable def T9o (n : Nat) : Tab := ⟨[e23 n, e31 n], []⟩
noncomputable def e9o (n : Nat) : OE := c9o.entry Tryd.prog (T9o n) n
theorem ok9o {W0 : World} (n : Nat) : OOK Tryd.prog W0 (e9o n) := c9o.sound (.cons (ok23 n) (.cons (ok31 n) .nil)) n Tryd.func9 (by kernel_rfl) (by kernel_rfl)
noncomputable def f9o (n : Nat) (l : List (Int × ((Int × ByteArray) × (Int × Int)))) : Option ((((Unit × (Int × Int)) × Unit) ⊕ ((Unit × (Int × Int)) × ((List (Int × ((Int × ByteArray) × (Int × Int))) × (Int × (Int × (Unit × List (Int × (Int × (Int × (Int × ((Int × (Int × (Int × Int))) × Int))))))))) × (List (Int × (Int × ((Int × (Int × (Int × Int))) × Int))) × Unit))))) := c9o.f Tryd.prog (T9o n) n l ()
noncomputable def f9o_12 (n m : Nat) (x22 : Int) (b1021a : List (Int × ((Int × ByteArray) × (Int × Int)))) (b1021ba : Int) (b1021bba : Int) (b1021bbbb : List (Int × (Int × (Int × (Int × ((Int × (Int × (Int × Int))) × Int)))))) (l702103 : List (Int × (Int × ((Int × (Int × (Int × Int))) × Int)))) : Option ((((Unit × (Int × Int)) × Unit) ⊕ ((Unit × (Int × Int)) × ((List (Int × ((Int × ByteArray) × (Int × Int))) × (Int × (Int × (Unit × List (Int × (Int × (Int × (Int × ((Int × (Int × (Int × Int))) × Int))))))))) × (List (Int × (Int × ((Int × (Int × (Int × Int))) × Int))) × Unit))))) := c9o.LL Tryd.prog (T9o n) m 12 ((), x22) ((b1021a, (b1021ba, (b1021bba, ((), b1021bbbb)))), l702103, ())
theorem f9o_12_zero (n : Nat) (x22 : Int) (b1021a : List (Int × ((Int × ByteArray) × (Int × Int)))) (b1021ba : Int) (b1021bba : Int) (b1021bbbb : List (Int × (Int × (Int × (Int × ((Int × (Int × (Int × Int))) × Int)))))) (l702103 : List (Int × (Int × ((Int × (Int × (Int × Int))) × Int)))) : f9o_12 n 0 x22 b1021a b1021ba b1021bba b1021bbbb l702103 = none := rfl
theorem f9o_12_eq (n m : Nat) (x22 : Int) (b1021a : List (Int × ((Int × ByteArray) × (Int × Int)))) (b1021ba : Int) (b1021bba : Int) (b1021bbbb : List (Int × (Int × (Int × (Int × ((Int × (Int × (Int × Int))) × Int)))))) (l702103 : List (Int × (Int × ((Int × (Int × (Int × Int))) × Int)))) : f9o_12 n (m + 1) x22 b1021a b1021ba b1021bba b1021bbbb l702103 =
  bif decide (x22 < (16 : Int)) then
   bif decide ((0 : Int) ≤ x22 ∧ x22 < ↑(16 : Nat)) then
    f9o_12 n m (Go.IntKind.i64.wrap (x22 + (1 : Int))) b1021a b1021ba b1021bba (b1021bbbb.set x22.toNat ((1 : Int), (b1021bbbb.getD x22.toNat ((0 : Int), (0 : Int), (0 : Int), (0 : Int), ((0 : Int), (0 : Int), (0 : Int), (0 : Int)), (0 : Int))).snd)) l702103
   else
    none
  else
   some (Sum.inr ((((), (0 : Int), (0 : Int)), ((b1021a, (b1021ba, (b1021bba, ((), b1021bbbb)))), l702103, ())))) := by kernel_rfl
theorem f9o_eq (n : Nat) (l : List (Int × ((Int × ByteArray) × (Int × Int)))) : f9o n l =
  (f23 n l).bind fun r1 =>
  bif r1.snd != (0 : Int) then
   some (Sum.inl (((), r1.fst, r1.snd), ()))
  else
   (f31 n l).bind fun r2 =>
   f9o_12 n n (0 : Int) r2 (0 : Int) (0 : Int) (List.replicate (16 : Nat) ((0 : Int), (0 : Int), (0 : Int), (0 : Int), ((0 : Int), (0 : Int), (0 : Int), (0 : Int)), (0 : Int))) [] := by kernel_rfl
/- (*convoy/client.Client).Next -/
noncomputable def c13o : OCfg := ⟨13, Tryd.f13, ⟨34, 6, [(0, (.ptr 1 []))], [(1, .box (.agg (.pair (.val (.sl 29 (.agg (.pair (.int .i64) (.pair (.agg (.pair (.int .u16) .str)) (.pair (.int .i64) (.int .i64))))))) (.pair (.val (.int .i64)) (.pair (.val (.int .i64)) (.pair (.rs 100002) (.val (.arr 16 (.agg (.pair (.int .i64) (.pair (.int .i64) (.agg (.pair (.int .i64) (.pair (.int .i64) (.pair (.agg (.pair (.int .i64) (.agg (.pair (.int .i64) (.pair (.int .i64) (.int .i64)))))) (.int .i64)))))))))))))))), (100002, .row 48 (.agg (.pair (.int .i64) (.pair (.int .i64) (.pair (.agg (.pair (.int .i64) (.agg (.pair (.int .i64) (.pair (.int .i64) (.int .i64)))))) (.int .i64))))))]⟩, [⟨3, 3, [(0, (.val (.agg (.pair (.int .i64) (.pair (.agg (.pair (.int .u16) .str)) (.pair (.int .i64) (.int .i64))))))), (1, (.val (.int .i64))), (2, (.val .bool))], [(1, .box (.agg (.pair (.val (.sl 29 (.agg (.pair (.int .i64) (.pair (.agg (.pair (.int .u16) .str)) (.pair (.int .i64) (.int .i64))))))) (.pair (.val (.int .i64)) (.pair (.val (.int .i64)) (.pair (.rs 100002) (.val (.arr 16 (.agg (.pair (.int .i64) (.pair (.int .i64) (.agg (.pair (.int .i64) (.pair (.int .i64) (.pair (.agg (.pair (.int .i64) (.agg (.pair (.int .i64) (.pair (.int .i64) (.int .i64)))))) (.int .i64)))))))))))))))), (100002, .row 48 (.agg (.pair (.int .i64) (.pair (.int .i64) (.pair (.agg (.pair (.int .i64) (.agg (.pair (.int .i64) (.pair (.int .i64) (.int .i64)))))) (.int .i64))))))]⟩], [], []⟩
noncomputable def T13o (_ : Nat) : Tab := ⟨[], []⟩
noncomputable def e13o (n : Nat) : OE := c13o.entry Tryd.prog (T13o n) n
theorem ok13o {W0 : World} (n : Nat) : OOK Tryd.prog W0 (e13o n) := c13o.sound .nil n Tryd.func13 (by kernel_rfl) (by kernel_rfl)
noncomputable def f13o (n : Nat) (b1a : List (Int × ((Int × ByteArray) × (Int × Int)))) (b1ba : Int) (b1bba : Int) (b1bbbb : List (Int × (Int × (Int × (Int × ((Int × (Int × (Int × Int))) × Int)))))) (l100002 : List (Int × (Int × ((Int × (Int × (Int × Int))) × Int)))) : Option ((((Int × ((Int × ByteArray) × (Int × Int))) × (Int × Bool)) × ((List (Int × ((Int × ByteArray) × (Int × Int))) × (Int × (Int × (Unit × List (Int × (Int × (Int × (Int × ((Int × (Int × (Int × Int))) × Int))))))))) × (List (Int × (Int × ((Int × (Int × (Int × Int))) × Int))) × Unit)))) := c13o.f Tryd.prog (T13o n) n () ((b1a, (b1ba, (b1bba, ((), b1bbbb)))), l100002, ())
theorem f13o_eq (n : Nat) (b1a : List (Int × ((Int × ByteArray) × (Int × Int)))) (b1ba : Int) (b1bba : Int) (b1bbbb : List (Int × (Int × (Int × (Int × ((Int × (Int × (Int × Int))) × Int)))))) (l100002 : List (Int × (Int × ((Int × (Int × (Int × Int))) × Int)))) : f13o n b1a b1ba b1bba b1bbbb l100002 =
  bif decide (b1ba ≥ ↑b1a.length) then
   some (((((0 : Int), ((0 : Int), ByteArray.empty), (0 : Int), (0 : Int)), (0 : Int), false), ((b1a, (b1ba, (b1bba, ((), b1bbbb)))), l100002, ())))
  else
   bif decide ((0 : Int) ≤ b1ba ∧ b1ba < ↑b1a.length) then
    some (((b1a.getD b1ba.toNat ((0 : Int), ((0 : Int), ByteArray.empty), (0 : Int), (0 : Int)), b1ba, true), ((b1a, (b1ba, (b1bba, ((), b1bbbb)))), l100002, ())))
   else
    none := by kernel_rfl
noncomputable def s8x0 : ByteArray := { data := #[115, 108, 101, 101, 112, 32, 53, 10] }
/- convoy/convoylaw21.awake -/
noncomputable def c8 : Cfg := ⟨8, Tryd.f8, [], [.bool], 6, [], []⟩
noncomputable def T8 (n : Nat) : Tab := ⟨[e24 n, e13z n], [e9o n, e13o n]⟩
noncomputable def e8 (n : Nat) : Entry := c8.entry Tryd.prog (T8 n) n
theorem ok8 {W0 : World} (n : Nat) : FnOK Tryd.prog W0 (e8 n) := c8.sound (.cons (ok24 n) (.ocons (ok9o n) (.cons (ok13z n) (.ocons (ok13o n) .nil)))) n Tryd.func8 (by kernel_rfl) (by kernel_rfl)
noncomputable def f8 (n : Nat) : Option (Bool) := c8.f Tryd.prog (T8 n) n ()
theorem f8_eq (n : Nat) : f8 n =
  (f24 n [((8 : Int), ((0 : Int), ByteArray.empty), (5 : Int), (0 : Int))]).bind fun r1 =>
  (f9o n [((8 : Int), ((0 : Int), ByteArray.empty), (5 : Int), (0 : Int))]).bind fun r2 =>
  Sum.elim (fun p3 =>
   (f13z n ()).bind fun r4 =>
   bif ByteArray.toList r1.fst == s8x0.toList then
    bif r1.snd.snd == (0 : Int) then
     bif p3.fst.snd.snd == (0 : Int) then
      bif r4.snd.snd then
       bif r4.snd.fst == (0 : Int) then
        some (r4.fst.snd.snd.fst == (5 : Int))
       else
        some false
      else
       some false
     else
      some false
    else
     some false
   else
    some false) (fun p3 =>
   (f13o n p3.snd.fst.1 p3.snd.fst.snd.fst p3.snd.fst.snd.snd.fst p3.snd.fst.snd.snd.snd.2 p3.snd.snd.1).bind fun r5 =>
   bif ByteArray.toList r1.fst == s8x0.toList then
    bif r1.snd.snd == (0 : Int) then
     bif p3.fst.snd.snd == (0 : Int) then
      bif r5.fst.snd.snd then
       bif r5.fst.snd.fst == (0 : Int) then
        some (r5.fst.fst.snd.snd.fst == (5 : Int))
       else
        some false
      else
       some false
     else
      some false
    else
     some false
   else
    some false) r2 := by kernel_rfl
end Go.Proofs.YthpcpofcadpijaaDoor
