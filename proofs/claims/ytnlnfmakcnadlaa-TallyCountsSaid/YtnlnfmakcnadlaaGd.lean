/- What functions compute: printed, and checked by the kernel. -/
import Derived.Test.YtnlnfmakcnadlaaGc
namespace Go.Proofs.Ytnlnfmakcnadlaa
open Go.Rf
/- convoy/convoylaw26.few -/
noncomputable def c16 : Cfg := ⟨16, Try.f16, [(.sl 132 (.agg (.pair (.int .i64) (.pair (.int .i64) (.pair (.int .i64) (.pair (.int .i64) (.pair (.int .i64) (.pair (.int .i64) (.pair (.int .i64) (.pair (.agg (.pair (.int .u16) .str)) (.agg (.pair (.int .i64) (.agg (.pair (.int .i64) (.pair (.int .i64) (.int .i64))))))))))))))))], [(.sl 132 (.agg (.pair (.int .i64) (.pair (.int .i64) (.pair (.int .i64) (.pair (.int .i64) (.pair (.int .i64) (.pair (.int .i64) (.pair (.int .i64) (.pair (.agg (.pair (.int .u16) .str)) (.agg (.pair (.int .i64) (.agg (.pair (.int .i64) (.pair (.int .i64) (.int .i64))))))))))))))))], 4, [], []⟩
noncomputable def T16 (_ : Nat) : List Entry := []
noncomputable def e16 (n : Nat) : Entry := c16.entry Try.prog (T16 n) n
theorem ok16 (n : Nat) : FnOK Try.prog (e16 n) := c16.sound .nil n Try.func16 (by kernel_rfl) (by kernel_rfl)
noncomputable def f16 (n : Nat) (l : List (Int × (Int × (Int × (Int × (Int × (Int × (Int × ((Int × ByteArray) × (Int × (Int × (Int × Int)))))))))))) : Option (List (Int × (Int × (Int × (Int × (Int × (Int × (Int × ((Int × ByteArray) × (Int × (Int × (Int × Int)))))))))))) := c16.f Try.prog (T16 n) n l
theorem f16_eq (n : Nat) (l : List (Int × (Int × (Int × (Int × (Int × (Int × (Int × ((Int × ByteArray) × (Int × (Int × (Int × Int)))))))))))) : f16 n l =
  bif decide (↑l.length > (2000 : Int)) then
   bif decide ((0 : Int) ≤ (0 : Int) ∧ (0 : Int) ≤ (2000 : Int) ∧ (2000 : Int) ≤ ↑l.length) then
    some (List.drop (0 : Nat) (List.take (2000 : Nat) l))
   else
    none
  else
   some l := by kernel_rfl
/- convoy/convoylaw26.given -/
noncomputable def c19 : Cfg := ⟨19, Try.f19, [(.sl 132 (.agg (.pair (.int .i64) (.pair (.int .i64) (.pair (.int .i64) (.pair (.int .i64) (.pair (.int .i64) (.pair (.int .i64) (.pair (.int .i64) (.pair (.agg (.pair (.int .u16) .str)) (.agg (.pair (.int .i64) (.agg (.pair (.int .i64) (.pair (.int .i64) (.int .i64))))))))))))))))], [(.sl 141 (.agg (.pair (.int .i64) (.pair (.int .i64) (.pair (.int .i64) (.pair (.int .i64) (.pair (.int .i64) (.pair (.int .i64) (.pair (.int .i64) (.pair (.agg (.pair (.int .u16) .str)) (.agg (.pair (.int .i64) (.agg (.pair (.int .i64) (.pair (.int .i64) (.int .i64))))))))))))))))], 6, [], [(6, ⟨55, 6, [(3, (.rs 1007)), (8, (.val (.sl 132 (.agg (.pair (.int .i64) (.pair (.int .i64) (.pair (.int .i64) (.pair (.int .i64) (.pair (.int .i64) (.pair (.int .i64) (.pair (.int .i64) (.pair (.agg (.pair (.int .u16) .str)) (.agg (.pair (.int .i64) (.agg (.pair (.int .i64) (.pair (.int .i64) (.int .i64)))))))))))))))))), (9, (.val (.int .i64))), (10, (.val (.int .i64)))], [(1007, .row 141 (.agg (.pair (.int .i64) (.pair (.int .i64) (.pair (.int .i64) (.pair (.int .i64) (.pair (.int .i64) (.pair (.int .i64) (.pair (.int .i64) (.pair (.agg (.pair (.int .u16) .str)) (.agg (.pair (.int .i64) (.agg (.pair (.int .i64) (.pair (.int .i64) (.int .i64))))))))))))))))]⟩)]⟩
noncomputable def T19 (_ : Nat) : List Entry := []
noncomputable def e19 (n : Nat) : Entry := c19.entry Try.prog (T19 n) n
theorem ok19 (n : Nat) : FnOK Try.prog (e19 n) := c19.sound .nil n Try.func19 (by kernel_rfl) (by kernel_rfl)
noncomputable def f19 (n : Nat) (l : List (Int × (Int × (Int × (Int × (Int × (Int × (Int × ((Int × ByteArray) × (Int × (Int × (Int × Int)))))))))))) : Option (List (Int × (Int × (Int × (Int × (Int × (Int × (Int × ((Int × ByteArray) × (Int × (Int × (Int × Int)))))))))))) := c19.f Try.prog (T19 n) n l
noncomputable def f19_6 (n m : Nat) (x8 : List (Int × (Int × (Int × (Int × (Int × (Int × (Int × ((Int × ByteArray) × (Int × (Int × (Int × Int)))))))))))) (x9 : Int) (x10 : Int) (l1007 : List (Int × (Int × (Int × (Int × (Int × (Int × (Int × ((Int × ByteArray) × (Int × (Int × (Int × Int)))))))))))) : Option (List (Int × (Int × (Int × (Int × (Int × (Int × (Int × ((Int × ByteArray) × (Int × (Int × (Int × Int)))))))))))) := c19.LL Try.prog (T19 n) m 6 ((), x8, x9, x10) (l1007, ())
theorem f19_6_zero (n : Nat) (x8 : List (Int × (Int × (Int × (Int × (Int × (Int × (Int × ((Int × ByteArray) × (Int × (Int × (Int × Int)))))))))))) (x9 : Int) (x10 : Int) (l1007 : List (Int × (Int × (Int × (Int × (Int × (Int × (Int × ((Int × ByteArray) × (Int × (Int × (Int × Int)))))))))))) : f19_6 n 0 x8 x9 x10 l1007 = none := rfl
theorem f19_6_eq (n m : Nat) (x8 : List (Int × (Int × (Int × (Int × (Int × (Int × (Int × ((Int × ByteArray) × (Int × (Int × (Int × Int)))))))))))) (x9 : Int) (x10 : Int) (l1007 : List (Int × (Int × (Int × (Int × (Int × (Int × (Int × ((Int × ByteArray) × (Int × (Int × (Int × Int)))))))))))) : f19_6 n (m + 1) x8 x9 x10 l1007 =
  bif decide (x10 < x9) then
   bif decide ((0 : Int) ≤ x10 ∧ x10 < ↑x8.length) then
    bif decide ((l1007.length + [x8.getD x10.toNat ((0 : Int), (0 : Int), (0 : Int), (0 : Int), (0 : Int), (0 : Int), (0 : Int), ((0 : Int), ByteArray.empty), (0 : Int), (0 : Int), (0 : Int), (0 : Int))].length) * (112 : Nat) ≤ Go.Rf.maxBytes) then
     f19_6 n m x8 x9 (Go.IntKind.i64.wrap (x10 + (1 : Int))) (l1007 ++ [x8.getD x10.toNat ((0 : Int), (0 : Int), (0 : Int), (0 : Int), (0 : Int), (0 : Int), (0 : Int), ((0 : Int), ByteArray.empty), (0 : Int), (0 : Int), (0 : Int), (0 : Int))])
    else
     none
   else
    none
  else
   some l1007 := by kernel_rfl
theorem f19_eq (n : Nat) (l : List (Int × (Int × (Int × (Int × (Int × (Int × (Int × ((Int × ByteArray) × (Int × (Int × (Int × Int)))))))))))) : f19 n l =
  f19_6 n n l ↑l.length (0 : Int) [] := by kernel_rfl
/- convoy/tally.Waits$1 -/
noncomputable def c82 : Cfg := ⟨82, Try.f82, [(.agg (.pair (.int .i64) (.pair (.int .i64) (.pair (.int .i64) (.pair (.int .i64) (.pair (.int .i64) (.pair (.int .i64) (.pair (.int .i64) (.pair (.agg (.pair (.int .u16) .str)) (.agg (.pair (.int .i64) (.agg (.pair (.int .i64) (.pair (.int .i64) (.int .i64)))))))))))))))], [(.int .i64)], 3, [], []⟩
noncomputable def T82 (_ : Nat) : List Entry := []
noncomputable def e82 (n : Nat) : Entry := c82.entry Try.prog (T82 n) n
theorem ok82 (n : Nat) : FnOK Try.prog (e82 n) := c82.sound .nil n Try.func82 (by kernel_rfl) (by kernel_rfl)
noncomputable def f82 (n : Nat) (e : (Int × (Int × (Int × (Int × (Int × (Int × (Int × ((Int × ByteArray) × (Int × (Int × (Int × Int)))))))))))) : Option (Int) := c82.f Try.prog (T82 n) n e
theorem f82_eq (n : Nat) (e : (Int × (Int × (Int × (Int × (Int × (Int × (Int × ((Int × ByteArray) × (Int × (Int × (Int × Int)))))))))))) : f82 n e =
  some e.snd.snd.snd.fst := by kernel_rfl
/- convoy/tally.Lengths$1 -/
noncomputable def c83 : Cfg := ⟨83, Try.f83, [(.agg (.pair (.int .i64) (.pair (.int .i64) (.pair (.int .i64) (.pair (.int .i64) (.pair (.int .i64) (.pair (.int .i64) (.pair (.int .i64) (.pair (.agg (.pair (.int .u16) .str)) (.agg (.pair (.int .i64) (.agg (.pair (.int .i64) (.pair (.int .i64) (.int .i64)))))))))))))))], [(.int .i64)], 3, [], []⟩
noncomputable def T83 (_ : Nat) : List Entry := []
noncomputable def e83 (n : Nat) : Entry := c83.entry Try.prog (T83 n) n
theorem ok83 (n : Nat) : FnOK Try.prog (e83 n) := c83.sound .nil n Try.func83 (by kernel_rfl) (by kernel_rfl)
noncomputable def f83 (n : Nat) (e : (Int × (Int × (Int × (Int × (Int × (Int × (Int × ((Int × ByteArray) × (Int × (Int × (Int × Int)))))))))))) : Option (Int) := c83.f Try.prog (T83 n) n e
theorem f83_eq (n : Nat) (e : (Int × (Int × (Int × (Int × (Int × (Int × (Int × ((Int × ByteArray) × (Int × (Int × (Int × Int)))))))))))) : f83 n e =
  some e.snd.snd.snd.snd.fst := by kernel_rfl
/- convoy/tally.since -/
noncomputable def c81a : Cfg := ⟨81, Try.f81, [(.sl 132 (.agg (.pair (.int .i64) (.pair (.int .i64) (.pair (.int .i64) (.pair (.int .i64) (.pair (.int .i64) (.pair (.int .i64) (.pair (.int .i64) (.pair (.agg (.pair (.int .u16) .str)) (.agg (.pair (.int .i64) (.agg (.pair (.int .i64) (.pair (.int .i64) (.int .i64)))))))))))))))), (.int .i64), (.int .i64), (.fn 82)], [(.arr 64 (.int .i64))], 7, [], [(8, ⟨77, 7, [(1, (.val (.int .i64))), (2, (.val (.int .i64))), (3, (.val (.fn 82))), (8, (.ptr 1008 [])), (9, (.ptr 1009 [])), (10, (.mp 1018)), (19, (.val (.sl 132 (.agg (.pair (.int .i64) (.pair (.int .i64) (.pair (.int .i64) (.pair (.int .i64) (.pair (.int .i64) (.pair (.int .i64) (.pair (.int .i64) (.pair (.agg (.pair (.int .u16) .str)) (.agg (.pair (.int .i64) (.agg (.pair (.int .i64) (.pair (.int .i64) (.int .i64)))))))))))))))))), (20, (.val (.int .i64))), (21, (.val (.int .i64)))], [(1008, .box (.val (.arr 64 (.int .i64)))), (1009, .box (.val (.arr 64 (.int .i64)))), (1018, .map 3 2 (.int .i64) (.int .i64))]⟩)]⟩
noncomputable def T81a (n : Nat) : List Entry := [e27 n, e45 n, e82 n]
noncomputable def e81a (n : Nat) : Entry := c81a.entry Try.prog (T81a n) n
theorem ok81a (n : Nat) : FnOK Try.prog (e81a n) := c81a.sound (.cons (ok27 n) (.cons (ok45 n) (.cons (ok82 n) .nil))) n Try.func81 (by kernel_rfl) (by kernel_rfl)
noncomputable def f81a (n : Nat) (l : List (Int × (Int × (Int × (Int × (Int × (Int × (Int × ((Int × ByteArray) × (Int × (Int × (Int × Int)))))))))))) (a1 : Int) (to : Int) (number : Unit) : Option (List Int) := c81a.f Try.prog (T81a n) n (l, a1, to, number)
noncomputable def f81a_8 (n m : Nat) (x1 : Int) (to : Int) (number : Unit) (x19 : List (Int × (Int × (Int × (Int × (Int × (Int × (Int × ((Int × ByteArray) × (Int × (Int × (Int × Int)))))))))))) (x20 : Int) (x21 : Int) (b1008 : List Int) (b1009 : List Int) (m1018 : List (Int × Int)) : Option (List Int) := c81a.LL Try.prog (T81a n) m 8 (x1, to, number, (), (), (), x19, x20, x21) (b1008, b1009, m1018, ())
theorem f81a_8_zero (n : Nat) (x1 : Int) (to : Int) (number : Unit) (x19 : List (Int × (Int × (Int × (Int × (Int × (Int × (Int × ((Int × ByteArray) × (Int × (Int × (Int × Int)))))))))))) (x20 : Int) (x21 : Int) (b1008 : List Int) (b1009 : List Int) (m1018 : List (Int × Int)) : f81a_8 n 0 x1 to number x19 x20 x21 b1008 b1009 m1018 = none := rfl
theorem f81a_8_eq (n m : Nat) (x1 : Int) (to : Int) (number : Unit) (x19 : List (Int × (Int × (Int × (Int × (Int × (Int × (Int × ((Int × ByteArray) × (Int × (Int × (Int × Int)))))))))))) (x20 : Int) (x21 : Int) (b1008 : List Int) (b1009 : List Int) (m1018 : List (Int × Int)) : f81a_8 n (m + 1) x1 to number x19 x20 x21 b1008 b1009 m1018 =
  bif decide (x21 < x20) then
   bif decide ((0 : Int) ≤ x21 ∧ x21 < ↑x19.length) then
    (f82 n (x19.getD x21.toNat ((0 : Int), (0 : Int), (0 : Int), (0 : Int), (0 : Int), (0 : Int), (0 : Int), ((0 : Int), ByteArray.empty), (0 : Int), (0 : Int), (0 : Int), (0 : Int)))).bind fun r1 =>
    bif (x19.getD x21.toNat ((0 : Int), (0 : Int), (0 : Int), (0 : Int), (0 : Int), (0 : Int), (0 : Int), ((0 : Int), ByteArray.empty), (0 : Int), (0 : Int), (0 : Int), (0 : Int))).snd.fst == x1 then
     f81a_8 n m x1 to () x19 x20 (Go.IntKind.i64.wrap (x21 + (1 : Int))) b1008 b1009 (Go.Rf.mput (Go.Rf.eqD (Go.Rf.Ty.int Go.IntKind.i64)) r1 (x19.getD x21.toNat ((0 : Int), (0 : Int), (0 : Int), (0 : Int), (0 : Int), (0 : Int), (0 : Int), ((0 : Int), ByteArray.empty), (0 : Int), (0 : Int), (0 : Int), (0 : Int))).fst m1018)
    else
     bif (x19.getD x21.toNat ((0 : Int), (0 : Int), (0 : Int), (0 : Int), (0 : Int), (0 : Int), (0 : Int), ((0 : Int), ByteArray.empty), (0 : Int), (0 : Int), (0 : Int), (0 : Int))).snd.fst == to then
      bif (Go.Rf.mget (Go.Rf.eqD (Go.Rf.Ty.int Go.IntKind.i64)) r1 m1018).isSome then
       (f27 n ((Go.Rf.mget (Go.Rf.eqD (Go.Rf.Ty.int Go.IntKind.i64)) r1 m1018).getD (0 : Int))).bind fun r2 =>
       bif r2 then
        (f27 n (x19.getD x21.toNat ((0 : Int), (0 : Int), (0 : Int), (0 : Int), (0 : Int), (0 : Int), (0 : Int), ((0 : Int), ByteArray.empty), (0 : Int), (0 : Int), (0 : Int), (0 : Int))).fst).bind fun r3 =>
        bif r3 then
         bif decide ((x19.getD x21.toNat ((0 : Int), (0 : Int), (0 : Int), (0 : Int), (0 : Int), (0 : Int), (0 : Int), ((0 : Int), ByteArray.empty), (0 : Int), (0 : Int), (0 : Int), (0 : Int))).fst ≥ (Go.Rf.mget (Go.Rf.eqD (Go.Rf.Ty.int Go.IntKind.i64)) r1 m1018).getD (0 : Int)) then
          (f45 n (Go.IntKind.i64.wrap ((x19.getD x21.toNat ((0 : Int), (0 : Int), (0 : Int), (0 : Int), (0 : Int), (0 : Int), (0 : Int), ((0 : Int), ByteArray.empty), (0 : Int), (0 : Int), (0 : Int), (0 : Int))).fst - (Go.Rf.mget (Go.Rf.eqD (Go.Rf.Ty.int Go.IntKind.i64)) r1 m1018).getD (0 : Int)))).bind fun r4 =>
          bif decide ((0 : Int) ≤ r4.fst ∧ r4.fst < ↑(64 : Nat)) then
           bif decide ((0 : Int) ≤ r4.fst ∧ r4.fst < ↑(64 : Nat)) then
            f81a_8 n m x1 to () x19 x20 (Go.IntKind.i64.wrap (x21 + (1 : Int))) b1008 (b1009.set (Int.toNat r4.fst) (Go.IntKind.i64.wrap (b1009.getD (Int.toNat r4.fst) (0 : Int) + (1 : Int)))) m1018
           else
            none
          else
           none
         else
          f81a_8 n m x1 to () x19 x20 (Go.IntKind.i64.wrap (x21 + (1 : Int))) b1008 b1009 m1018
        else
         f81a_8 n m x1 to () x19 x20 (Go.IntKind.i64.wrap (x21 + (1 : Int))) b1008 b1009 m1018
       else
        f81a_8 n m x1 to () x19 x20 (Go.IntKind.i64.wrap (x21 + (1 : Int))) b1008 b1009 m1018
      else
       f81a_8 n m x1 to () x19 x20 (Go.IntKind.i64.wrap (x21 + (1 : Int))) b1008 b1009 m1018
     else
      f81a_8 n m x1 to () x19 x20 (Go.IntKind.i64.wrap (x21 + (1 : Int))) b1008 b1009 m1018
   else
    none
  else
   some b1009 := by kernel_rfl
theorem f81a_eq (n : Nat) (l : List (Int × (Int × (Int × (Int × (Int × (Int × (Int × ((Int × ByteArray) × (Int × (Int × (Int × Int)))))))))))) (a1 : Int) (to : Int) (number : Unit) : f81a n l a1 to number =
  f81a_8 n n a1 to () l ↑l.length (0 : Int) ([(0 : Int), (0 : Int), (0 : Int), (0 : Int), (0 : Int), (0 : Int), (0 : Int), (0 : Int), (0 : Int), (0 : Int), (0 : Int), (0 : Int), (0 : Int), (0 : Int), (0 : Int), (0 : Int), (0 : Int), (0 : Int), (0 : Int), (0 : Int), (0 : Int), (0 : Int), (0 : Int), (0 : Int), (0 : Int), (0 : Int), (0 : Int), (0 : Int), (0 : Int), (0 : Int), (0 : Int), (0 : Int), (0 : Int), (0 : Int), (0 : Int), (0 : Int), (0 : Int), (0 : Int), (0 : Int), (0 : Int), (0 : Int), (0 : Int), (0 : Int), (0 : Int), (0 : Int), (0 : Int), (0 : Int), (0 : Int), (0 : Int), (0 : Int), (0 : Int), (0 : Int), (0 : Int), (0 : Int), (0 : Int), (0 : Int), (0 : Int), (0 : Int), (0 : Int), (0 : Int), (0 : Int), (0 : Int), (0 : Int), (0 : Int)]) ([(0 : Int), (0 : Int), (0 : Int), (0 : Int), (0 : Int), (0 : Int), (0 : Int), (0 : Int), (0 : Int), (0 : Int), (0 : Int), (0 : Int), (0 : Int), (0 : Int), (0 : Int), (0 : Int), (0 : Int), (0 : Int), (0 : Int), (0 : Int), (0 : Int), (0 : Int), (0 : Int), (0 : Int), (0 : Int), (0 : Int), (0 : Int), (0 : Int), (0 : Int), (0 : Int), (0 : Int), (0 : Int), (0 : Int), (0 : Int), (0 : Int), (0 : Int), (0 : Int), (0 : Int), (0 : Int), (0 : Int), (0 : Int), (0 : Int), (0 : Int), (0 : Int), (0 : Int), (0 : Int), (0 : Int), (0 : Int), (0 : Int), (0 : Int), (0 : Int), (0 : Int), (0 : Int), (0 : Int), (0 : Int), (0 : Int), (0 : Int), (0 : Int), (0 : Int), (0 : Int), (0 : Int), (0 : Int), (0 : Int), (0 : Int)]) [] := by kernel_rfl
/- convoy/tally.since -/
noncomputable def c81b : Cfg := ⟨81, Try.f81, [(.sl 132 (.agg (.pair (.int .i64) (.pair (.int .i64) (.pair (.int .i64) (.pair (.int .i64) (.pair (.int .i64) (.pair (.int .i64) (.pair (.int .i64) (.pair (.agg (.pair (.int .u16) .str)) (.agg (.pair (.int .i64) (.agg (.pair (.int .i64) (.pair (.int .i64) (.int .i64)))))))))))))))), (.int .i64), (.int .i64), (.fn 83)], [(.arr 64 (.int .i64))], 7, [], [(8, ⟨77, 7, [(1, (.val (.int .i64))), (2, (.val (.int .i64))), (3, (.val (.fn 83))), (8, (.ptr 1008 [])), (9, (.ptr 1009 [])), (10, (.mp 1018)), (19, (.val (.sl 132 (.agg (.pair (.int .i64) (.pair (.int .i64) (.pair (.int .i64) (.pair (.int .i64) (.pair (.int .i64) (.pair (.int .i64) (.pair (.int .i64) (.pair (.agg (.pair (.int .u16) .str)) (.agg (.pair (.int .i64) (.agg (.pair (.int .i64) (.pair (.int .i64) (.int .i64)))))))))))))))))), (20, (.val (.int .i64))), (21, (.val (.int .i64)))], [(1008, .box (.val (.arr 64 (.int .i64)))), (1009, .box (.val (.arr 64 (.int .i64)))), (1018, .map 3 2 (.int .i64) (.int .i64))]⟩)]⟩
noncomputable def T81b (n : Nat) : List Entry := [e27 n, e45 n, e83 n]
noncomputable def e81b (n : Nat) : Entry := c81b.entry Try.prog (T81b n) n
theorem ok81b (n : Nat) : FnOK Try.prog (e81b n) := c81b.sound (.cons (ok27 n) (.cons (ok45 n) (.cons (ok83 n) .nil))) n Try.func81 (by kernel_rfl) (by kernel_rfl)
noncomputable def f81b (n : Nat) (l : List (Int × (Int × (Int × (Int × (Int × (Int × (Int × ((Int × ByteArray) × (Int × (Int × (Int × Int)))))))))))) (a1 : Int) (to : Int) (number : Unit) : Option (List Int) := c81b.f Try.prog (T81b n) n (l, a1, to, number)
noncomputable def f81b_8 (n m : Nat) (x1 : Int) (to : Int) (number : Unit) (x19 : List (Int × (Int × (Int × (Int × (Int × (Int × (Int × ((Int × ByteArray) × (Int × (Int × (Int × Int)))))))))))) (x20 : Int) (x21 : Int) (b1008 : List Int) (b1009 : List Int) (m1018 : List (Int × Int)) : Option (List Int) := c81b.LL Try.prog (T81b n) m 8 (x1, to, number, (), (), (), x19, x20, x21) (b1008, b1009, m1018, ())
theorem f81b_8_zero (n : Nat) (x1 : Int) (to : Int) (number : Unit) (x19 : List (Int × (Int × (Int × (Int × (Int × (Int × (Int × ((Int × ByteArray) × (Int × (Int × (Int × Int)))))))))))) (x20 : Int) (x21 : Int) (b1008 : List Int) (b1009 : List Int) (m1018 : List (Int × Int)) : f81b_8 n 0 x1 to number x19 x20 x21 b1008 b1009 m1018 = none := rfl
theorem f81b_8_eq (n m : Nat) (x1 : Int) (to : Int) (number : Unit) (x19 : List (Int × (Int × (Int × (Int × (Int × (Int × (Int × ((Int × ByteArray) × (Int × (Int × (Int × Int)))))))))))) (x20 : Int) (x21 : Int) (b1008 : List Int) (b1009 : List Int) (m1018 : List (Int × Int)) : f81b_8 n (m + 1) x1 to number x19 x20 x21 b1008 b1009 m1018 =
  bif decide (x21 < x20) then
   bif decide ((0 : Int) ≤ x21 ∧ x21 < ↑x19.length) then
    (f83 n (x19.getD x21.toNat ((0 : Int), (0 : Int), (0 : Int), (0 : Int), (0 : Int), (0 : Int), (0 : Int), ((0 : Int), ByteArray.empty), (0 : Int), (0 : Int), (0 : Int), (0 : Int)))).bind fun r1 =>
    bif (x19.getD x21.toNat ((0 : Int), (0 : Int), (0 : Int), (0 : Int), (0 : Int), (0 : Int), (0 : Int), ((0 : Int), ByteArray.empty), (0 : Int), (0 : Int), (0 : Int), (0 : Int))).snd.fst == x1 then
     f81b_8 n m x1 to () x19 x20 (Go.IntKind.i64.wrap (x21 + (1 : Int))) b1008 b1009 (Go.Rf.mput (Go.Rf.eqD (Go.Rf.Ty.int Go.IntKind.i64)) r1 (x19.getD x21.toNat ((0 : Int), (0 : Int), (0 : Int), (0 : Int), (0 : Int), (0 : Int), (0 : Int), ((0 : Int), ByteArray.empty), (0 : Int), (0 : Int), (0 : Int), (0 : Int))).fst m1018)
    else
     bif (x19.getD x21.toNat ((0 : Int), (0 : Int), (0 : Int), (0 : Int), (0 : Int), (0 : Int), (0 : Int), ((0 : Int), ByteArray.empty), (0 : Int), (0 : Int), (0 : Int), (0 : Int))).snd.fst == to then
      bif (Go.Rf.mget (Go.Rf.eqD (Go.Rf.Ty.int Go.IntKind.i64)) r1 m1018).isSome then
       (f27 n ((Go.Rf.mget (Go.Rf.eqD (Go.Rf.Ty.int Go.IntKind.i64)) r1 m1018).getD (0 : Int))).bind fun r2 =>
       bif r2 then
        (f27 n (x19.getD x21.toNat ((0 : Int), (0 : Int), (0 : Int), (0 : Int), (0 : Int), (0 : Int), (0 : Int), ((0 : Int), ByteArray.empty), (0 : Int), (0 : Int), (0 : Int), (0 : Int))).fst).bind fun r3 =>
        bif r3 then
         bif decide ((x19.getD x21.toNat ((0 : Int), (0 : Int), (0 : Int), (0 : Int), (0 : Int), (0 : Int), (0 : Int), ((0 : Int), ByteArray.empty), (0 : Int), (0 : Int), (0 : Int), (0 : Int))).fst ≥ (Go.Rf.mget (Go.Rf.eqD (Go.Rf.Ty.int Go.IntKind.i64)) r1 m1018).getD (0 : Int)) then
          (f45 n (Go.IntKind.i64.wrap ((x19.getD x21.toNat ((0 : Int), (0 : Int), (0 : Int), (0 : Int), (0 : Int), (0 : Int), (0 : Int), ((0 : Int), ByteArray.empty), (0 : Int), (0 : Int), (0 : Int), (0 : Int))).fst - (Go.Rf.mget (Go.Rf.eqD (Go.Rf.Ty.int Go.IntKind.i64)) r1 m1018).getD (0 : Int)))).bind fun r4 =>
          bif decide ((0 : Int) ≤ r4.fst ∧ r4.fst < ↑(64 : Nat)) then
           bif decide ((0 : Int) ≤ r4.fst ∧ r4.fst < ↑(64 : Nat)) then
            f81b_8 n m x1 to () x19 x20 (Go.IntKind.i64.wrap (x21 + (1 : Int))) b1008 (b1009.set (Int.toNat r4.fst) (Go.IntKind.i64.wrap (b1009.getD (Int.toNat r4.fst) (0 : Int) + (1 : Int)))) m1018
           else
            none
          else
           none
         else
          f81b_8 n m x1 to () x19 x20 (Go.IntKind.i64.wrap (x21 + (1 : Int))) b1008 b1009 m1018
        else
         f81b_8 n m x1 to () x19 x20 (Go.IntKind.i64.wrap (x21 + (1 : Int))) b1008 b1009 m1018
       else
        f81b_8 n m x1 to () x19 x20 (Go.IntKind.i64.wrap (x21 + (1 : Int))) b1008 b1009 m1018
      else
       f81b_8 n m x1 to () x19 x20 (Go.IntKind.i64.wrap (x21 + (1 : Int))) b1008 b1009 m1018
     else
      f81b_8 n m x1 to () x19 x20 (Go.IntKind.i64.wrap (x21 + (1 : Int))) b1008 b1009 m1018
   else
    none
  else
   some b1009 := by kernel_rfl
theorem f81b_eq (n : Nat) (l : List (Int × (Int × (Int × (Int × (Int × (Int × (Int × ((Int × ByteArray) × (Int × (Int × (Int × Int)))))))))))) (a1 : Int) (to : Int) (number : Unit) : f81b n l a1 to number =
  f81b_8 n n a1 to () l ↑l.length (0 : Int) ([(0 : Int), (0 : Int), (0 : Int), (0 : Int), (0 : Int), (0 : Int), (0 : Int), (0 : Int), (0 : Int), (0 : Int), (0 : Int), (0 : Int), (0 : Int), (0 : Int), (0 : Int), (0 : Int), (0 : Int), (0 : Int), (0 : Int), (0 : Int), (0 : Int), (0 : Int), (0 : Int), (0 : Int), (0 : Int), (0 : Int), (0 : Int), (0 : Int), (0 : Int), (0 : Int), (0 : Int), (0 : Int), (0 : Int), (0 : Int), (0 : Int), (0 : Int), (0 : Int), (0 : Int), (0 : Int), (0 : Int), (0 : Int), (0 : Int), (0 : Int), (0 : Int), (0 : Int), (0 : Int), (0 : Int), (0 : Int), (0 : Int), (0 : Int), (0 : Int), (0 : Int), (0 : Int), (0 : Int), (0 : Int), (0 : Int), (0 : Int), (0 : Int), (0 : Int), (0 : Int), (0 : Int), (0 : Int), (0 : Int), (0 : Int)]) ([(0 : Int), (0 : Int), (0 : Int), (0 : Int), (0 : Int), (0 : Int), (0 : Int), (0 : Int), (0 : Int), (0 : Int), (0 : Int), (0 : Int), (0 : Int), (0 : Int), (0 : Int), (0 : Int), (0 : Int), (0 : Int), (0 : Int), (0 : Int), (0 : Int), (0 : Int), (0 : Int), (0 : Int), (0 : Int), (0 : Int), (0 : Int), (0 : Int), (0 : Int), (0 : Int), (0 : Int), (0 : Int), (0 : Int), (0 : Int), (0 : Int), (0 : Int), (0 : Int), (0 : Int), (0 : Int), (0 : Int), (0 : Int), (0 : Int), (0 : Int), (0 : Int), (0 : Int), (0 : Int), (0 : Int), (0 : Int), (0 : Int), (0 : Int), (0 : Int), (0 : Int), (0 : Int), (0 : Int), (0 : Int), (0 : Int), (0 : Int), (0 : Int), (0 : Int), (0 : Int), (0 : Int), (0 : Int), (0 : Int), (0 : Int)]) [] := by kernel_rfl
/- convoy/tally.Waits -/
noncomputable def c49 : Cfg := ⟨49, Try.f49, [(.sl 132 (.agg (.pair (.int .i64) (.pair (.int .i64) (.pair (.int .i64) (.pair (.int .i64) (.pair (.int .i64) (.pair (.int .i64) (.pair (.int .i64) (.pair (.agg (.pair (.int .u16) .str)) (.agg (.pair (.int .i64) (.agg (.pair (.int .i64) (.pair (.int .i64) (.int .i64))))))))))))))))], [(.arr 64 (.int .i64))], 3, [], []⟩
noncomputable def T49 (n : Nat) : List Entry := [e81a n, e81b n, e82 n]
noncomputable def e49 (n : Nat) : Entry := c49.entry Try.prog (T49 n) n
theorem ok49 (n : Nat) : FnOK Try.prog (e49 n) := c49.sound (.cons (ok81a n) (.cons (ok81b n) (.cons (ok82 n) .nil))) n Try.func49 (by kernel_rfl) (by kernel_rfl)
noncomputable def f49 (n : Nat) (l : List (Int × (Int × (Int × (Int × (Int × (Int × (Int × ((Int × ByteArray) × (Int × (Int × (Int × Int)))))))))))) : Option (List Int) := c49.f Try.prog (T49 n) n l
theorem f49_eq (n : Nat) (l : List (Int × (Int × (Int × (Int × (Int × (Int × (Int × ((Int × ByteArray) × (Int × (Int × (Int × Int)))))))))))) : f49 n l =
  (f81a n l (1 : Int) (4 : Int) ()).bind fun r1 =>
  some r1 := by kernel_rfl
/- convoy/tally.Lengths -/
noncomputable def c50 : Cfg := ⟨50, Try.f50, [(.sl 132 (.agg (.pair (.int .i64) (.pair (.int .i64) (.pair (.int .i64) (.pair (.int .i64) (.pair (.int .i64) (.pair (.int .i64) (.pair (.int .i64) (.pair (.agg (.pair (.int .u16) .str)) (.agg (.pair (.int .i64) (.agg (.pair (.int .i64) (.pair (.int .i64) (.int .i64))))))))))))))))], [(.arr 64 (.int .i64))], 3, [], []⟩
noncomputable def T50 (n : Nat) : List Entry := [e81a n, e81b n, e83 n]
noncomputable def e50 (n : Nat) : Entry := c50.entry Try.prog (T50 n) n
theorem ok50 (n : Nat) : FnOK Try.prog (e50 n) := c50.sound (.cons (ok81a n) (.cons (ok81b n) (.cons (ok83 n) .nil))) n Try.func50 (by kernel_rfl) (by kernel_rfl)
noncomputable def f50 (n : Nat) (l : List (Int × (Int × (Int × (Int × (Int × (Int × (Int × ((Int × ByteArray) × (Int × (Int × (Int × Int)))))))))))) : Option (List Int) := c50.f Try.prog (T50 n) n l
theorem f50_eq (n : Nat) (l : List (Int × (Int × (Int × (Int × (Int × (Int × (Int × ((Int × ByteArray) × (Int × (Int × (Int × Int)))))))))))) : f50 n l =
  (f81b n l (2 : Int) (5 : Int) ()).bind fun r1 =>
  some r1 := by kernel_rfl
/- convoy/tally.Add -/
noncomputable def c51 : Cfg := ⟨51, Try.f51, [(.arr 64 (.int .i64)), (.arr 64 (.int .i64))], [(.arr 64 (.int .i64))], 5, [], [(4, ⟨20, 5, [(2, (.ptr 1002 [])), (4, (.ptr 1004 [])), (7, (.val (.arr 64 (.int .i64)))), (8, (.val (.int .i64)))], [(1002, .box (.val (.arr 64 (.int .i64)))), (1004, .box (.val (.arr 64 (.int .i64))))]⟩)]⟩
noncomputable def T51 (_ : Nat) : List Entry := []
noncomputable def e51 (n : Nat) : Entry := c51.entry Try.prog (T51 n) n
theorem ok51 (n : Nat) : FnOK Try.prog (e51 n) := c51.sound .nil n Try.func51 (by kernel_rfl) (by kernel_rfl)
noncomputable def f51 (n : Nat) (a : List Int) (b : List Int) : Option (List Int) := c51.f Try.prog (T51 n) n (a, b)
noncomputable def f51_4 (n m : Nat) (x7 : List Int) (x8 : Int) (b1002 : List Int) (b1004 : List Int) : Option (List Int) := c51.LL Try.prog (T51 n) m 4 ((), (), x7, x8) (b1002, b1004, ())
theorem f51_4_zero (n : Nat) (x7 : List Int) (x8 : Int) (b1002 : List Int) (b1004 : List Int) : f51_4 n 0 x7 x8 b1002 b1004 = none := rfl
theorem f51_4_eq (n m : Nat) (x7 : List Int) (x8 : Int) (b1002 : List Int) (b1004 : List Int) : f51_4 n (m + 1) x7 x8 b1002 b1004 =
  bif decide (x8 < (64 : Int)) then
   bif decide ((0 : Int) ≤ x8 ∧ x8 < ↑(64 : Nat)) then
    bif decide ((0 : Int) ≤ x8 ∧ x8 < ↑(64 : Nat)) then
     bif decide ((0 : Int) ≤ x8 ∧ x8 < ↑(64 : Nat)) then
      f51_4 n m x7 (Go.IntKind.i64.wrap (x8 + (1 : Int))) (b1002.set x8.toNat (Go.IntKind.i64.wrap (b1002.getD x8.toNat (0 : Int) + x7.getD x8.toNat (0 : Int)))) b1004
     else
      none
    else
     none
   else
    none
  else
   some b1002 := by kernel_rfl
theorem f51_eq (n : Nat) (a : List Int) (b : List Int) : f51 n a b =
  f51_4 n n b (0 : Int) a ([(0 : Int), (0 : Int), (0 : Int), (0 : Int), (0 : Int), (0 : Int), (0 : Int), (0 : Int), (0 : Int), (0 : Int), (0 : Int), (0 : Int), (0 : Int), (0 : Int), (0 : Int), (0 : Int), (0 : Int), (0 : Int), (0 : Int), (0 : Int), (0 : Int), (0 : Int), (0 : Int), (0 : Int), (0 : Int), (0 : Int), (0 : Int), (0 : Int), (0 : Int), (0 : Int), (0 : Int), (0 : Int), (0 : Int), (0 : Int), (0 : Int), (0 : Int), (0 : Int), (0 : Int), (0 : Int), (0 : Int), (0 : Int), (0 : Int), (0 : Int), (0 : Int), (0 : Int), (0 : Int), (0 : Int), (0 : Int), (0 : Int), (0 : Int), (0 : Int), (0 : Int), (0 : Int), (0 : Int), (0 : Int), (0 : Int), (0 : Int), (0 : Int), (0 : Int), (0 : Int), (0 : Int), (0 : Int), (0 : Int), (0 : Int)]) := by kernel_rfl
/- convoy/convoyref26.last -/
noncomputable def c84 : Cfg := ⟨84, Try.f84, [(.sl 141 (.agg (.pair (.int .i64) (.pair (.int .i64) (.pair (.int .i64) (.pair (.int .i64) (.pair (.int .i64) (.pair (.int .i64) (.pair (.int .i64) (.pair (.agg (.pair (.int .u16) .str)) (.agg (.pair (.int .i64) (.agg (.pair (.int .i64) (.pair (.int .i64) (.int .i64)))))))))))))))), (.int .i64), (.int .i64), (.int .i64), .bool], [(.int .i64), .bool], 6, [], [(4, ⟨49, 6, [(0, (.val (.sl 141 (.agg (.pair (.int .i64) (.pair (.int .i64) (.pair (.int .i64) (.pair (.int .i64) (.pair (.int .i64) (.pair (.int .i64) (.pair (.int .i64) (.pair (.agg (.pair (.int .u16) .str)) (.agg (.pair (.int .i64) (.agg (.pair (.int .i64) (.pair (.int .i64) (.int .i64)))))))))))))))))), (2, (.val (.int .i64))), (3, (.val (.int .i64))), (4, (.val .bool)), (12, (.val (.int .i64)))], []⟩)]⟩
noncomputable def T84 (_ : Nat) : List Entry := []
noncomputable def e84 (n : Nat) : Entry := c84.entry Try.prog (T84 n) n
theorem ok84 (n : Nat) : FnOK Try.prog (e84 n) := c84.sound .nil n Try.func84 (by kernel_rfl) (by kernel_rfl)
noncomputable def f84 (n : Nat) (l : List (Int × (Int × (Int × (Int × (Int × (Int × (Int × ((Int × ByteArray) × (Int × (Int × (Int × Int)))))))))))) (a1 : Int) (kind : Int) (a3 : Int) (callers : Bool) : Option (Int × Bool) := c84.f Try.prog (T84 n) n (l, a1, kind, a3, callers)
noncomputable def f84_4 (n m : Nat) (l : List (Int × (Int × (Int × (Int × (Int × (Int × (Int × ((Int × ByteArray) × (Int × (Int × (Int × Int)))))))))))) (kind : Int) (x3 : Int) (callers : Bool) (i : Int) : Option (Int × Bool) := c84.LL Try.prog (T84 n) m 4 (l, kind, x3, callers, i) ()
theorem f84_4_zero (n : Nat) (l : List (Int × (Int × (Int × (Int × (Int × (Int × (Int × ((Int × ByteArray) × (Int × (Int × (Int × Int)))))))))))) (kind : Int) (x3 : Int) (callers : Bool) (i : Int) : f84_4 n 0 l kind x3 callers i = none := rfl
theorem f84_4_eq (n m : Nat) (l : List (Int × (Int × (Int × (Int × (Int × (Int × (Int × ((Int × ByteArray) × (Int × (Int × (Int × Int)))))))))))) (kind : Int) (x3 : Int) (callers : Bool) (i : Int) : f84_4 n (m + 1) l kind x3 callers i =
  bif decide (i ≥ (0 : Int)) then
   bif decide ((0 : Int) ≤ i ∧ i < ↑l.length) then
    bif (l.getD i.toNat ((0 : Int), (0 : Int), (0 : Int), (0 : Int), (0 : Int), (0 : Int), (0 : Int), ((0 : Int), ByteArray.empty), (0 : Int), (0 : Int), (0 : Int), (0 : Int))).snd.fst == kind then
     bif callers then
      bif (l.getD i.toNat ((0 : Int), (0 : Int), (0 : Int), (0 : Int), (0 : Int), (0 : Int), (0 : Int), ((0 : Int), ByteArray.empty), (0 : Int), (0 : Int), (0 : Int), (0 : Int))).snd.snd.snd.fst == x3 then
       some ((l.getD i.toNat ((0 : Int), (0 : Int), (0 : Int), (0 : Int), (0 : Int), (0 : Int), (0 : Int), ((0 : Int), ByteArray.empty), (0 : Int), (0 : Int), (0 : Int), (0 : Int))).fst, true)
      else
       bif !callers then
        bif (l.getD i.toNat ((0 : Int), (0 : Int), (0 : Int), (0 : Int), (0 : Int), (0 : Int), (0 : Int), ((0 : Int), ByteArray.empty), (0 : Int), (0 : Int), (0 : Int), (0 : Int))).snd.snd.snd.snd.fst == x3 then
         some ((l.getD i.toNat ((0 : Int), (0 : Int), (0 : Int), (0 : Int), (0 : Int), (0 : Int), (0 : Int), ((0 : Int), ByteArray.empty), (0 : Int), (0 : Int), (0 : Int), (0 : Int))).fst, true)
        else
         f84_4 n m l kind x3 callers (Go.IntKind.i64.wrap (i - (1 : Int)))
       else
        f84_4 n m l kind x3 callers (Go.IntKind.i64.wrap (i - (1 : Int)))
     else
      bif !callers then
       bif (l.getD i.toNat ((0 : Int), (0 : Int), (0 : Int), (0 : Int), (0 : Int), (0 : Int), (0 : Int), ((0 : Int), ByteArray.empty), (0 : Int), (0 : Int), (0 : Int), (0 : Int))).snd.snd.snd.snd.fst == x3 then
        some ((l.getD i.toNat ((0 : Int), (0 : Int), (0 : Int), (0 : Int), (0 : Int), (0 : Int), (0 : Int), ((0 : Int), ByteArray.empty), (0 : Int), (0 : Int), (0 : Int), (0 : Int))).fst, true)
       else
        f84_4 n m l kind x3 callers (Go.IntKind.i64.wrap (i - (1 : Int)))
      else
       f84_4 n m l kind x3 callers (Go.IntKind.i64.wrap (i - (1 : Int)))
    else
     f84_4 n m l kind x3 callers (Go.IntKind.i64.wrap (i - (1 : Int)))
   else
    none
  else
   some ((0 : Int), false) := by kernel_rfl
theorem f84_eq (n : Nat) (l : List (Int × (Int × (Int × (Int × (Int × (Int × (Int × ((Int × ByteArray) × (Int × (Int × (Int × Int)))))))))))) (a1 : Int) (kind : Int) (a3 : Int) (callers : Bool) : f84 n l a1 kind a3 callers =
  f84_4 n n l kind a3 callers (Go.IntKind.i64.wrap (a1 - (1 : Int))) := by kernel_rfl
/- convoy/convoyref26.Bucket -/
noncomputable def c93 : Cfg := ⟨93, Try.f93, [(.int .i64)], [(.int .i64)], 4, [], [(4, ⟨11, 4, [(0, (.val (.int .i64))), (3, (.val (.int .i64)))], []⟩)]⟩
noncomputable def T93 (_ : Nat) : List Entry := []
noncomputable def e93 (n : Nat) : Entry := c93.entry Try.prog (T93 n) n
theorem ok93 (n : Nat) : FnOK Try.prog (e93 n) := c93.sound .nil n Try.func93 (by kernel_rfl) (by kernel_rfl)
noncomputable def f93 (n : Nat) (d : Int) : Option (Int) := c93.f Try.prog (T93 n) n d
noncomputable def f93_4 (n m : Nat) (d : Int) (x3 : Int) : Option (Int) := c93.LL Try.prog (T93 n) m 4 (d, x3) ()
theorem f93_4_zero (n : Nat) (d : Int) (x3 : Int) : f93_4 n 0 d x3 = none := rfl
theorem f93_4_eq (n m : Nat) (d : Int) (x3 : Int) : f93_4 n (m + 1) d x3 =
  bif decide (d > (0 : Int)) then
   f93_4 n m (Go.IntKind.i64.wrap (d.tdiv (2 : Int))) (Go.IntKind.i64.wrap (x3 + (1 : Int)))
  else
   some x3 := by kernel_rfl
theorem f93_eq (n : Nat) (d : Int) : f93 n d =
  f93_4 n n d (0 : Int) := by kernel_rfl
/- convoy/convoyref26.count -/
noncomputable def c85 : Cfg := ⟨85, Try.f85, [(.arr 64 (.int .i64)), (.int .i64), (.int .i64), .bool], [(.arr 64 (.int .i64))], 5, [], []⟩
noncomputable def T85 (n : Nat) : List Entry := [e93 n]
noncomputable def e85 (n : Nat) : Entry := c85.entry Try.prog (T85 n) n
theorem ok85 (n : Nat) : FnOK Try.prog (e85 n) := c85.sound (.cons (ok93 n) .nil) n Try.func85 (by kernel_rfl) (by kernel_rfl)
noncomputable def f85 (n : Nat) (b : List Int) (a1 : Int) (to : Int) (is : Bool) : Option (List Int) := c85.f Try.prog (T85 n) n (b, a1, to, is)
theorem f85_eq (n : Nat) (b : List Int) (a1 : Int) (to : Int) (is : Bool) : f85 n b a1 to is =
  bif is then
   bif decide (a1 ≥ (0 : Int)) then
    bif decide (to ≥ a1) then
     bif decide (to ≤ (4611686018427387904 : Int)) then
      (f93 n (Go.IntKind.i64.wrap (to - a1))).bind fun r1 =>
      bif decide ((0 : Int) ≤ r1 ∧ r1 < ↑(64 : Nat)) then
       bif decide ((0 : Int) ≤ r1 ∧ r1 < ↑(64 : Nat)) then
        some (b.set (Int.toNat r1) (Go.IntKind.i64.wrap (b.getD (Int.toNat r1) (0 : Int) + (1 : Int))))
       else
        none
      else
       none
     else
      some b
    else
     some b
   else
    some b
  else
   some b := by kernel_rfl
/- convoy/convoyref26.Waits -/
noncomputable def c52 : Cfg := ⟨52, Try.f52, [(.sl 141 (.agg (.pair (.int .i64) (.pair (.int .i64) (.pair (.int .i64) (.pair (.int .i64) (.pair (.int .i64) (.pair (.int .i64) (.pair (.int .i64) (.pair (.agg (.pair (.int .u16) .str)) (.agg (.pair (.int .i64) (.agg (.pair (.int .i64) (.pair (.int .i64) (.int .i64))))))))))))))))], [(.arr 64 (.int .i64))], 6, [], [(6, ⟨35, 6, [(0, (.val (.sl 141 (.agg (.pair (.int .i64) (.pair (.int .i64) (.pair (.int .i64) (.pair (.int .i64) (.pair (.int .i64) (.pair (.int .i64) (.pair (.int .i64) (.pair (.agg (.pair (.int .u16) .str)) (.agg (.pair (.int .i64) (.agg (.pair (.int .i64) (.pair (.int .i64) (.int .i64)))))))))))))))))), (2, (.ptr 1002 [])), (3, (.ptr 1003 [])), (9, (.val (.sl 141 (.agg (.pair (.int .i64) (.pair (.int .i64) (.pair (.int .i64) (.pair (.int .i64) (.pair (.int .i64) (.pair (.int .i64) (.pair (.int .i64) (.pair (.agg (.pair (.int .u16) .str)) (.agg (.pair (.int .i64) (.agg (.pair (.int .i64) (.pair (.int .i64) (.int .i64)))))))))))))))))), (10, (.val (.int .i64))), (11, (.val (.int .i64)))], [(1002, .box (.val (.arr 64 (.int .i64)))), (1003, .box (.val (.arr 64 (.int .i64))))]⟩)]⟩
noncomputable def T52 (n : Nat) : List Entry := [e84 n, e85 n]
noncomputable def e52 (n : Nat) : Entry := c52.entry Try.prog (T52 n) n
theorem ok52 (n : Nat) : FnOK Try.prog (e52 n) := c52.sound (.cons (ok84 n) (.cons (ok85 n) .nil)) n Try.func52 (by kernel_rfl) (by kernel_rfl)
noncomputable def f52 (n : Nat) (l : List (Int × (Int × (Int × (Int × (Int × (Int × (Int × ((Int × ByteArray) × (Int × (Int × (Int × Int)))))))))))) : Option (List Int) := c52.f Try.prog (T52 n) n l
noncomputable def f52_6 (n m : Nat) (l : List (Int × (Int × (Int × (Int × (Int × (Int × (Int × ((Int × ByteArray) × (Int × (Int × (Int × Int)))))))))))) (x9 : List (Int × (Int × (Int × (Int × (Int × (Int × (Int × ((Int × ByteArray) × (Int × (Int × (Int × Int)))))))))))) (x10 : Int) (x11 : Int) (b1002 : List Int) (b1003 : List Int) : Option (List Int) := c52.LL Try.prog (T52 n) m 6 (l, (), (), x9, x10, x11) (b1002, b1003, ())
theorem f52_6_zero (n : Nat) (l : List (Int × (Int × (Int × (Int × (Int × (Int × (Int × ((Int × ByteArray) × (Int × (Int × (Int × Int)))))))))))) (x9 : List (Int × (Int × (Int × (Int × (Int × (Int × (Int × ((Int × ByteArray) × (Int × (Int × (Int × Int)))))))))))) (x10 : Int) (x11 : Int) (b1002 : List Int) (b1003 : List Int) : f52_6 n 0 l x9 x10 x11 b1002 b1003 = none := rfl
theorem f52_6_eq (n m : Nat) (l : List (Int × (Int × (Int × (Int × (Int × (Int × (Int × ((Int × ByteArray) × (Int × (Int × (Int × Int)))))))))))) (x9 : List (Int × (Int × (Int × (Int × (Int × (Int × (Int × ((Int × ByteArray) × (Int × (Int × (Int × Int)))))))))))) (x10 : Int) (x11 : Int) (b1002 : List Int) (b1003 : List Int) : f52_6 n (m + 1) l x9 x10 x11 b1002 b1003 =
  bif decide (x11 < x10) then
   bif decide ((0 : Int) ≤ x11 ∧ x11 < ↑x9.length) then
    bif (x9.getD x11.toNat ((0 : Int), (0 : Int), (0 : Int), (0 : Int), (0 : Int), (0 : Int), (0 : Int), ((0 : Int), ByteArray.empty), (0 : Int), (0 : Int), (0 : Int), (0 : Int))).snd.fst == (4 : Int) then
     (f84 n l x11 (1 : Int) (x9.getD x11.toNat ((0 : Int), (0 : Int), (0 : Int), (0 : Int), (0 : Int), (0 : Int), (0 : Int), ((0 : Int), ByteArray.empty), (0 : Int), (0 : Int), (0 : Int), (0 : Int))).snd.snd.snd.fst true).bind fun r1 =>
     (f85 n b1003 r1.fst (x9.getD x11.toNat ((0 : Int), (0 : Int), (0 : Int), (0 : Int), (0 : Int), (0 : Int), (0 : Int), ((0 : Int), ByteArray.empty), (0 : Int), (0 : Int), (0 : Int), (0 : Int))).fst r1.snd).bind fun r2 =>
     f52_6 n m l x9 x10 (Go.IntKind.i64.wrap (x11 + (1 : Int))) b1002 r2
    else
     f52_6 n m l x9 x10 (Go.IntKind.i64.wrap (x11 + (1 : Int))) b1002 b1003
   else
    none
  else
   some b1003 := by kernel_rfl
theorem f52_eq (n : Nat) (l : List (Int × (Int × (Int × (Int × (Int × (Int × (Int × ((Int × ByteArray) × (Int × (Int × (Int × Int)))))))))))) : f52 n l =
  f52_6 n n l l ↑l.length (0 : Int) ([(0 : Int), (0 : Int), (0 : Int), (0 : Int), (0 : Int), (0 : Int), (0 : Int), (0 : Int), (0 : Int), (0 : Int), (0 : Int), (0 : Int), (0 : Int), (0 : Int), (0 : Int), (0 : Int), (0 : Int), (0 : Int), (0 : Int), (0 : Int), (0 : Int), (0 : Int), (0 : Int), (0 : Int), (0 : Int), (0 : Int), (0 : Int), (0 : Int), (0 : Int), (0 : Int), (0 : Int), (0 : Int), (0 : Int), (0 : Int), (0 : Int), (0 : Int), (0 : Int), (0 : Int), (0 : Int), (0 : Int), (0 : Int), (0 : Int), (0 : Int), (0 : Int), (0 : Int), (0 : Int), (0 : Int), (0 : Int), (0 : Int), (0 : Int), (0 : Int), (0 : Int), (0 : Int), (0 : Int), (0 : Int), (0 : Int), (0 : Int), (0 : Int), (0 : Int), (0 : Int), (0 : Int), (0 : Int), (0 : Int), (0 : Int)]) ([(0 : Int), (0 : Int), (0 : Int), (0 : Int), (0 : Int), (0 : Int), (0 : Int), (0 : Int), (0 : Int), (0 : Int), (0 : Int), (0 : Int), (0 : Int), (0 : Int), (0 : Int), (0 : Int), (0 : Int), (0 : Int), (0 : Int), (0 : Int), (0 : Int), (0 : Int), (0 : Int), (0 : Int), (0 : Int), (0 : Int), (0 : Int), (0 : Int), (0 : Int), (0 : Int), (0 : Int), (0 : Int), (0 : Int), (0 : Int), (0 : Int), (0 : Int), (0 : Int), (0 : Int), (0 : Int), (0 : Int), (0 : Int), (0 : Int), (0 : Int), (0 : Int), (0 : Int), (0 : Int), (0 : Int), (0 : Int), (0 : Int), (0 : Int), (0 : Int), (0 : Int), (0 : Int), (0 : Int), (0 : Int), (0 : Int), (0 : Int), (0 : Int), (0 : Int), (0 : Int), (0 : Int), (0 : Int), (0 : Int), (0 : Int)]) := by kernel_rfl
/- convoy/convoyref26.Lengths -/
noncomputable def c53 : Cfg := ⟨53, Try.f53, [(.sl 141 (.agg (.pair (.int .i64) (.pair (.int .i64) (.pair (.int .i64) (.pair (.int .i64) (.pair (.int .i64) (.pair (.int .i64) (.pair (.int .i64) (.pair (.agg (.pair (.int .u16) .str)) (.agg (.pair (.int .i64) (.agg (.pair (.int .i64) (.pair (.int .i64) (.int .i64))))))))))))))))], [(.arr 64 (.int .i64))], 6, [], [(6, ⟨35, 6, [(0, (.val (.sl 141 (.agg (.pair (.int .i64) (.pair (.int .i64) (.pair (.int .i64) (.pair (.int .i64) (.pair (.int .i64) (.pair (.int .i64) (.pair (.int .i64) (.pair (.agg (.pair (.int .u16) .str)) (.agg (.pair (.int .i64) (.agg (.pair (.int .i64) (.pair (.int .i64) (.int .i64)))))))))))))))))), (2, (.ptr 1002 [])), (3, (.ptr 1003 [])), (9, (.val (.sl 141 (.agg (.pair (.int .i64) (.pair (.int .i64) (.pair (.int .i64) (.pair (.int .i64) (.pair (.int .i64) (.pair (.int .i64) (.pair (.int .i64) (.pair (.agg (.pair (.int .u16) .str)) (.agg (.pair (.int .i64) (.agg (.pair (.int .i64) (.pair (.int .i64) (.int .i64)))))))))))))))))), (10, (.val (.int .i64))), (11, (.val (.int .i64)))], [(1002, .box (.val (.arr 64 (.int .i64)))), (1003, .box (.val (.arr 64 (.int .i64))))]⟩)]⟩
noncomputable def T53 (n : Nat) : List Entry := [e84 n, e85 n]
noncomputable def e53 (n : Nat) : Entry := c53.entry Try.prog (T53 n) n
theorem ok53 (n : Nat) : FnOK Try.prog (e53 n) := c53.sound (.cons (ok84 n) (.cons (ok85 n) .nil)) n Try.func53 (by kernel_rfl) (by kernel_rfl)
noncomputable def f53 (n : Nat) (l : List (Int × (Int × (Int × (Int × (Int × (Int × (Int × ((Int × ByteArray) × (Int × (Int × (Int × Int)))))))))))) : Option (List Int) := c53.f Try.prog (T53 n) n l
noncomputable def f53_6 (n m : Nat) (l : List (Int × (Int × (Int × (Int × (Int × (Int × (Int × ((Int × ByteArray) × (Int × (Int × (Int × Int)))))))))))) (x9 : List (Int × (Int × (Int × (Int × (Int × (Int × (Int × ((Int × ByteArray) × (Int × (Int × (Int × Int)))))))))))) (x10 : Int) (x11 : Int) (b1002 : List Int) (b1003 : List Int) : Option (List Int) := c53.LL Try.prog (T53 n) m 6 (l, (), (), x9, x10, x11) (b1002, b1003, ())
theorem f53_6_zero (n : Nat) (l : List (Int × (Int × (Int × (Int × (Int × (Int × (Int × ((Int × ByteArray) × (Int × (Int × (Int × Int)))))))))))) (x9 : List (Int × (Int × (Int × (Int × (Int × (Int × (Int × ((Int × ByteArray) × (Int × (Int × (Int × Int)))))))))))) (x10 : Int) (x11 : Int) (b1002 : List Int) (b1003 : List Int) : f53_6 n 0 l x9 x10 x11 b1002 b1003 = none := rfl
theorem f53_6_eq (n m : Nat) (l : List (Int × (Int × (Int × (Int × (Int × (Int × (Int × ((Int × ByteArray) × (Int × (Int × (Int × Int)))))))))))) (x9 : List (Int × (Int × (Int × (Int × (Int × (Int × (Int × ((Int × ByteArray) × (Int × (Int × (Int × Int)))))))))))) (x10 : Int) (x11 : Int) (b1002 : List Int) (b1003 : List Int) : f53_6 n (m + 1) l x9 x10 x11 b1002 b1003 =
  bif decide (x11 < x10) then
   bif decide ((0 : Int) ≤ x11 ∧ x11 < ↑x9.length) then
    bif (x9.getD x11.toNat ((0 : Int), (0 : Int), (0 : Int), (0 : Int), (0 : Int), (0 : Int), (0 : Int), ((0 : Int), ByteArray.empty), (0 : Int), (0 : Int), (0 : Int), (0 : Int))).snd.fst == (5 : Int) then
     (f84 n l x11 (2 : Int) (x9.getD x11.toNat ((0 : Int), (0 : Int), (0 : Int), (0 : Int), (0 : Int), (0 : Int), (0 : Int), ((0 : Int), ByteArray.empty), (0 : Int), (0 : Int), (0 : Int), (0 : Int))).snd.snd.snd.snd.fst false).bind fun r1 =>
     (f85 n b1003 r1.fst (x9.getD x11.toNat ((0 : Int), (0 : Int), (0 : Int), (0 : Int), (0 : Int), (0 : Int), (0 : Int), ((0 : Int), ByteArray.empty), (0 : Int), (0 : Int), (0 : Int), (0 : Int))).fst r1.snd).bind fun r2 =>
     f53_6 n m l x9 x10 (Go.IntKind.i64.wrap (x11 + (1 : Int))) b1002 r2
    else
     f53_6 n m l x9 x10 (Go.IntKind.i64.wrap (x11 + (1 : Int))) b1002 b1003
   else
    none
  else
   some b1003 := by kernel_rfl
theorem f53_eq (n : Nat) (l : List (Int × (Int × (Int × (Int × (Int × (Int × (Int × ((Int × ByteArray) × (Int × (Int × (Int × Int)))))))))))) : f53 n l =
  f53_6 n n l l ↑l.length (0 : Int) ([(0 : Int), (0 : Int), (0 : Int), (0 : Int), (0 : Int), (0 : Int), (0 : Int), (0 : Int), (0 : Int), (0 : Int), (0 : Int), (0 : Int), (0 : Int), (0 : Int), (0 : Int), (0 : Int), (0 : Int), (0 : Int), (0 : Int), (0 : Int), (0 : Int), (0 : Int), (0 : Int), (0 : Int), (0 : Int), (0 : Int), (0 : Int), (0 : Int), (0 : Int), (0 : Int), (0 : Int), (0 : Int), (0 : Int), (0 : Int), (0 : Int), (0 : Int), (0 : Int), (0 : Int), (0 : Int), (0 : Int), (0 : Int), (0 : Int), (0 : Int), (0 : Int), (0 : Int), (0 : Int), (0 : Int), (0 : Int), (0 : Int), (0 : Int), (0 : Int), (0 : Int), (0 : Int), (0 : Int), (0 : Int), (0 : Int), (0 : Int), (0 : Int), (0 : Int), (0 : Int), (0 : Int), (0 : Int), (0 : Int), (0 : Int)]) ([(0 : Int), (0 : Int), (0 : Int), (0 : Int), (0 : Int), (0 : Int), (0 : Int), (0 : Int), (0 : Int), (0 : Int), (0 : Int), (0 : Int), (0 : Int), (0 : Int), (0 : Int), (0 : Int), (0 : Int), (0 : Int), (0 : Int), (0 : Int), (0 : Int), (0 : Int), (0 : Int), (0 : Int), (0 : Int), (0 : Int), (0 : Int), (0 : Int), (0 : Int), (0 : Int), (0 : Int), (0 : Int), (0 : Int), (0 : Int), (0 : Int), (0 : Int), (0 : Int), (0 : Int), (0 : Int), (0 : Int), (0 : Int), (0 : Int), (0 : Int), (0 : Int), (0 : Int), (0 : Int), (0 : Int), (0 : Int), (0 : Int), (0 : Int), (0 : Int), (0 : Int), (0 : Int), (0 : Int), (0 : Int), (0 : Int), (0 : Int), (0 : Int), (0 : Int), (0 : Int), (0 : Int), (0 : Int), (0 : Int), (0 : Int)]) := by kernel_rfl
/- convoy/convoylaw26.TallyTimes -/
noncomputable def c10 : Cfg := ⟨10, Try.f10, [(.sl 132 (.agg (.pair (.int .i64) (.pair (.int .i64) (.pair (.int .i64) (.pair (.int .i64) (.pair (.int .i64) (.pair (.int .i64) (.pair (.int .i64) (.pair (.agg (.pair (.int .u16) .str)) (.agg (.pair (.int .i64) (.agg (.pair (.int .i64) (.pair (.int .i64) (.int .i64))))))))))))))))], [.bool], 6, [], [(10, ⟨46, 6, [(0, (.val (.sl 132 (.agg (.pair (.int .i64) (.pair (.int .i64) (.pair (.int .i64) (.pair (.int .i64) (.pair (.int .i64) (.pair (.int .i64) (.pair (.int .i64) (.pair (.agg (.pair (.int .u16) .str)) (.agg (.pair (.int .i64) (.agg (.pair (.int .i64) (.pair (.int .i64) (.int .i64)))))))))))))))))), (2, (.val .bool)), (3, (.ptr 1003 [])), (4, (.ptr 1004 [])), (5, (.ptr 1005 [])), (16, (.val (.int .i64)))], [(1003, .box (.val (.arr 64 (.int .i64)))), (1004, .box (.val (.arr 64 (.int .i64)))), (1005, .box (.val (.arr 64 (.int .i64))))]⟩)]⟩
noncomputable def T10 (n : Nat) : List Entry := [e16 n, e49 n, e50 n, e51 n, e20 n, e19 n, e52 n, e53 n]
noncomputable def e10 (n : Nat) : Entry := c10.entry Try.prog (T10 n) n
theorem ok10 (n : Nat) : FnOK Try.prog (e10 n) := c10.sound (.cons (ok16 n) (.cons (ok49 n) (.cons (ok50 n) (.cons (ok51 n) (.cons (ok20 n) (.cons (ok19 n) (.cons (ok52 n) (.cons (ok53 n) .nil)))))))) n Try.func10 (by kernel_rfl) (by kernel_rfl)
noncomputable def f10 (n : Nat) (l : List (Int × (Int × (Int × (Int × (Int × (Int × (Int × ((Int × ByteArray) × (Int × (Int × (Int × Int)))))))))))) : Option (Bool) := c10.f Try.prog (T10 n) n l
noncomputable def f10_10 (n m : Nat) (l : List (Int × (Int × (Int × (Int × (Int × (Int × (Int × ((Int × ByteArray) × (Int × (Int × (Int × Int)))))))))))) (x2 : Bool) (x16 : Int) (b1003 : List Int) (b1004 : List Int) (b1005 : List Int) : Option (Bool) := c10.LL Try.prog (T10 n) m 10 (l, x2, (), (), (), x16) (b1003, b1004, b1005, ())
theorem f10_10_zero (n : Nat) (l : List (Int × (Int × (Int × (Int × (Int × (Int × (Int × ((Int × ByteArray) × (Int × (Int × (Int × Int)))))))))))) (x2 : Bool) (x16 : Int) (b1003 : List Int) (b1004 : List Int) (b1005 : List Int) : f10_10 n 0 l x2 x16 b1003 b1004 b1005 = none := rfl
theorem f10_10_eq (n m : Nat) (l : List (Int × (Int × (Int × (Int × (Int × (Int × (Int × ((Int × ByteArray) × (Int × (Int × (Int × Int)))))))))))) (x2 : Bool) (x16 : Int) (b1003 : List Int) (b1004 : List Int) (b1005 : List Int) : f10_10 n (m + 1) l x2 x16 b1003 b1004 b1005 =
  bif decide (x16 < (64 : Int)) then
   bif decide ((0 : Int) ≤ x16 ∧ x16 < ↑(64 : Nat)) then
    bif decide ((0 : Int) ≤ x16 ∧ x16 < ↑(64 : Nat)) then
     bif decide ((0 : Int) ≤ x16 ∧ x16 < ↑(64 : Nat)) then
      bif b1005.getD x16.toNat (0 : Int) != Go.IntKind.i64.wrap (b1003.getD x16.toNat (0 : Int) + b1004.getD x16.toNat (0 : Int)) then
       some false
      else
       f10_10 n m l x2 (Go.IntKind.i64.wrap (x16 + (1 : Int))) b1003 b1004 b1005
     else
      none
    else
     none
   else
    none
  else
   (f20 n).bind fun r1 =>
   bif r1 then
    (f19 n l).bind fun r2 =>
    (f52 n r2).bind fun r3 =>
    bif Go.Rf.eqL (Go.Rf.eqD (Go.Rf.Ty.int Go.IntKind.i64)) b1003 r3 then
     (f19 n l).bind fun r4 =>
     (f53 n r4).bind fun r5 =>
     some (Go.Rf.eqL (Go.Rf.eqD (Go.Rf.Ty.int Go.IntKind.i64)) b1004 r5)
    else
     some false
   else
    some false := by kernel_rfl
theorem f10_eq (n : Nat) (l : List (Int × (Int × (Int × (Int × (Int × (Int × (Int × ((Int × ByteArray) × (Int × (Int × (Int × Int)))))))))))) : f10 n l =
  (f16 n l).bind fun r1 =>
  (f49 n r1).bind fun r2 =>
  (f50 n r1).bind fun r3 =>
  (f51 n r2 r3).bind fun r4 =>
  f10_10 n n r1 false (0 : Int) r2 r3 r4 := by kernel_rfl
end Go.Proofs.Ytnlnfmakcnadlaa
