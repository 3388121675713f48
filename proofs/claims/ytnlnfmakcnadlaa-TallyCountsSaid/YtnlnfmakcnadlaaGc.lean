/- What functions compute: printed, and checked by the kernel. -/
import Derived.Test.YtnlnfmakcnadlaaGb
namespace Go.Proofs.Ytnlnfmakcnadlaa
open Go.Rf
/- convoy/tally.Of -/
noncomputable def c17 : Cfg := ⟨17, Try.f17, [(.sl 132 (.agg (.pair (.int .i64) (.pair (.int .i64) (.pair (.int .i64) (.pair (.int .i64) (.pair (.int .i64) (.pair (.int .i64) (.pair (.int .i64) (.pair (.agg (.pair (.int .u16) .str)) (.agg (.pair (.int .i64) (.agg (.pair (.int .i64) (.pair (.int .i64) (.int .i64))))))))))))))))], [(.agg (.pair (.arr 12 (.int .i64)) (.pair (.arr 7 (.int .i64)) (.pair (.arr 6 (.int .i64)) (.pair (.int .i64) (.int .i64))))))], 7, [10], [(10, ⟨93, 7, [(2, (.ptr 1002 [])), (3, (.ptr 1003 [])), (4, (.mp 1010)), (5, (.mp 1011)), (12, (.val (.sl 132 (.agg (.pair (.int .i64) (.pair (.int .i64) (.pair (.int .i64) (.pair (.int .i64) (.pair (.int .i64) (.pair (.int .i64) (.pair (.int .i64) (.pair (.agg (.pair (.int .u16) .str)) (.agg (.pair (.int .i64) (.agg (.pair (.int .i64) (.pair (.int .i64) (.int .i64)))))))))))))))))), (13, (.val (.int .i64))), (14, (.val (.int .i64)))], [(1002, .box (.val (.agg (.pair (.arr 12 (.int .i64)) (.pair (.arr 7 (.int .i64)) (.pair (.arr 6 (.int .i64)) (.pair (.int .i64) (.int .i64)))))))), (1003, .box (.val (.agg (.pair (.arr 12 (.int .i64)) (.pair (.arr 7 (.int .i64)) (.pair (.arr 6 (.int .i64)) (.pair (.int .i64) (.int .i64)))))))), (1010, .map 126 4 (.agg (.pair (.int .u16) .str)) .bool), (1011, .map 3 4 (.int .i64) .bool)]⟩), (21, ⟨93, 7, [(2, (.ptr 1002 [])), (3, (.ptr 1003 [])), (4, (.mp 1010)), (5, (.mp 1011)), (7, (.ptr 1007 [])), (8, (.val (.int .i64))), (12, (.val (.sl 132 (.agg (.pair (.int .i64) (.pair (.int .i64) (.pair (.int .i64) (.pair (.int .i64) (.pair (.int .i64) (.pair (.int .i64) (.pair (.int .i64) (.pair (.agg (.pair (.int .u16) .str)) (.agg (.pair (.int .i64) (.agg (.pair (.int .i64) (.pair (.int .i64) (.int .i64)))))))))))))))))), (13, (.val (.int .i64))), (14, (.val (.int .i64)))], [(1002, .box (.val (.agg (.pair (.arr 12 (.int .i64)) (.pair (.arr 7 (.int .i64)) (.pair (.arr 6 (.int .i64)) (.pair (.int .i64) (.int .i64)))))))), (1003, .box (.val (.agg (.pair (.arr 12 (.int .i64)) (.pair (.arr 7 (.int .i64)) (.pair (.arr 6 (.int .i64)) (.pair (.int .i64) (.int .i64)))))))), (1007, .box (.val (.agg (.pair (.int .i64) (.pair (.int .i64) (.pair (.int .i64) (.pair (.int .i64) (.pair (.int .i64) (.pair (.int .i64) (.pair (.int .i64) (.pair (.agg (.pair (.int .u16) .str)) (.agg (.pair (.int .i64) (.agg (.pair (.int .i64) (.pair (.int .i64) (.int .i64))))))))))))))))), (1010, .map 126 4 (.agg (.pair (.int .u16) .str)) .bool), (1011, .map 3 4 (.int .i64) .bool)]⟩)]⟩
noncomputable def T17 (_ : Nat) : List Entry := []
noncomputable def e17 (n : Nat) : Entry := c17.entry Try.prog (T17 n) n
theorem ok17 (n : Nat) : FnOK Try.prog (e17 n) := c17.sound .nil n Try.func17 (by kernel_rfl) (by kernel_rfl)
noncomputable def f17 (n : Nat) (l : List (Int × (Int × (Int × (Int × (Int × (Int × (Int × ((Int × ByteArray) × (Int × (Int × (Int × Int)))))))))))) : Option ((List Int × (List Int × (List Int × (Int × Int))))) := c17.f Try.prog (T17 n) n l
noncomputable def f17_10 (n m : Nat) (x12 : List (Int × (Int × (Int × (Int × (Int × (Int × (Int × ((Int × ByteArray) × (Int × (Int × (Int × Int)))))))))))) (x13 : Int) (x14 : Int) (b1002 : (List Int × (List Int × (List Int × (Int × Int))))) (b1003 : (List Int × (List Int × (List Int × (Int × Int))))) (m1010 : List ((Int × ByteArray) × Bool)) (m1011 : List (Int × Bool)) : Option ((List Int × (List Int × (List Int × (Int × Int))))) := c17.LL Try.prog (T17 n) m 10 ((), (), (), (), x12, x13, x14) (b1002, b1003, m1010, m1011, ())
noncomputable def f17_21 (n m : Nat) (kind : Int) (x12 : List (Int × (Int × (Int × (Int × (Int × (Int × (Int × ((Int × ByteArray) × (Int × (Int × (Int × Int)))))))))))) (x13 : Int) (x14 : Int) (b1002 : (List Int × (List Int × (List Int × (Int × Int))))) (b1003 : (List Int × (List Int × (List Int × (Int × Int))))) (b1007 : (Int × (Int × (Int × (Int × (Int × (Int × (Int × ((Int × ByteArray) × (Int × (Int × (Int × Int)))))))))))) (m1010 : List ((Int × ByteArray) × Bool)) (m1011 : List (Int × Bool)) : Option ((List Int × (List Int × (List Int × (Int × Int))))) := c17.LL Try.prog (T17 n) m 21 ((), (), (), (), (), kind, x12, x13, x14) (b1002, b1003, b1007, m1010, m1011, ())
theorem f17_10_zero (n : Nat) (x12 : List (Int × (Int × (Int × (Int × (Int × (Int × (Int × ((Int × ByteArray) × (Int × (Int × (Int × Int)))))))))))) (x13 : Int) (x14 : Int) (b1002 : (List Int × (List Int × (List Int × (Int × Int))))) (b1003 : (List Int × (List Int × (List Int × (Int × Int))))) (m1010 : List ((Int × ByteArray) × Bool)) (m1011 : List (Int × Bool)) : f17_10 n 0 x12 x13 x14 b1002 b1003 m1010 m1011 = none := rfl
theorem f17_10_eq (n m : Nat) (x12 : List (Int × (Int × (Int × (Int × (Int × (Int × (Int × ((Int × ByteArray) × (Int × (Int × (Int × Int)))))))))))) (x13 : Int) (x14 : Int) (b1002 : (List Int × (List Int × (List Int × (Int × Int))))) (b1003 : (List Int × (List Int × (List Int × (Int × Int))))) (m1010 : List ((Int × ByteArray) × Bool)) (m1011 : List (Int × Bool)) : f17_10 n (m + 1) x12 x13 x14 b1002 b1003 m1010 m1011 =
  bif decide (x14 < x13) then
   bif decide ((0 : Int) ≤ x14 ∧ x14 < ↑x12.length) then
    bif decide ((x12.getD x14.toNat ((0 : Int), (0 : Int), (0 : Int), (0 : Int), (0 : Int), (0 : Int), (0 : Int), ((0 : Int), ByteArray.empty), (0 : Int), (0 : Int), (0 : Int), (0 : Int))).snd.fst < (0 : Int)) then
     f17_21 n m (0 : Int) x12 x13 x14 b1002 b1003 (x12.getD x14.toNat ((0 : Int), (0 : Int), (0 : Int), (0 : Int), (0 : Int), (0 : Int), (0 : Int), ((0 : Int), ByteArray.empty), (0 : Int), (0 : Int), (0 : Int), (0 : Int))) m1010 m1011
    else
     bif decide ((x12.getD x14.toNat ((0 : Int), (0 : Int), (0 : Int), (0 : Int), (0 : Int), (0 : Int), (0 : Int), ((0 : Int), ByteArray.empty), (0 : Int), (0 : Int), (0 : Int), (0 : Int))).snd.fst ≥ (12 : Int)) then
      f17_21 n m (0 : Int) x12 x13 x14 b1002 b1003 (x12.getD x14.toNat ((0 : Int), (0 : Int), (0 : Int), (0 : Int), (0 : Int), (0 : Int), (0 : Int), ((0 : Int), ByteArray.empty), (0 : Int), (0 : Int), (0 : Int), (0 : Int))) m1010 m1011
     else
      f17_21 n m ((x12.getD x14.toNat ((0 : Int), (0 : Int), (0 : Int), (0 : Int), (0 : Int), (0 : Int), (0 : Int), ((0 : Int), ByteArray.empty), (0 : Int), (0 : Int), (0 : Int), (0 : Int))).snd.fst) x12 x13 x14 b1002 b1003 (x12.getD x14.toNat ((0 : Int), (0 : Int), (0 : Int), (0 : Int), (0 : Int), (0 : Int), (0 : Int), ((0 : Int), ByteArray.empty), (0 : Int), (0 : Int), (0 : Int), (0 : Int))) m1010 m1011
   else
    none
  else
   some (b1003.fst, b1003.snd.fst, b1003.snd.snd.fst, ↑m1010.length, b1003.snd.snd.snd.snd) := by kernel_rfl
theorem f17_21_zero (n : Nat) (kind : Int) (x12 : List (Int × (Int × (Int × (Int × (Int × (Int × (Int × ((Int × ByteArray) × (Int × (Int × (Int × Int)))))))))))) (x13 : Int) (x14 : Int) (b1002 : (List Int × (List Int × (List Int × (Int × Int))))) (b1003 : (List Int × (List Int × (List Int × (Int × Int))))) (b1007 : (Int × (Int × (Int × (Int × (Int × (Int × (Int × ((Int × ByteArray) × (Int × (Int × (Int × Int)))))))))))) (m1010 : List ((Int × ByteArray) × Bool)) (m1011 : List (Int × Bool)) : f17_21 n 0 kind x12 x13 x14 b1002 b1003 b1007 m1010 m1011 = none := rfl
theorem f17_21_eq (n m : Nat) (kind : Int) (x12 : List (Int × (Int × (Int × (Int × (Int × (Int × (Int × ((Int × ByteArray) × (Int × (Int × (Int × Int)))))))))))) (x13 : Int) (x14 : Int) (b1002 : (List Int × (List Int × (List Int × (Int × Int))))) (b1003 : (List Int × (List Int × (List Int × (Int × Int))))) (b1007 : (Int × (Int × (Int × (Int × (Int × (Int × (Int × ((Int × ByteArray) × (Int × (Int × (Int × Int)))))))))))) (m1010 : List ((Int × ByteArray) × Bool)) (m1011 : List (Int × Bool)) : f17_21 n (m + 1) kind x12 x13 x14 b1002 b1003 b1007 m1010 m1011 =
  bif decide ((0 : Int) ≤ kind ∧ kind < ↑(12 : Nat)) then
   bif decide ((0 : Int) ≤ kind ∧ kind < ↑(12 : Nat)) then
    bif kind == (1 : Int) then
     bif decide (b1007.snd.snd.snd.snd.snd.snd.fst ≥ (0 : Int)) then
      bif decide (b1007.snd.snd.snd.snd.snd.snd.fst < (7 : Int)) then
       bif decide ((0 : Int) ≤ b1007.snd.snd.snd.snd.snd.snd.fst ∧ b1007.snd.snd.snd.snd.snd.snd.fst < ↑(7 : Nat)) then
        bif decide ((0 : Int) ≤ b1007.snd.snd.snd.snd.snd.snd.fst ∧ b1007.snd.snd.snd.snd.snd.snd.fst < ↑(7 : Nat)) then
         f17_10 n m x12 x13 (Go.IntKind.i64.wrap (x14 + (1 : Int))) b1002 ((List.set b1003.fst kind.toNat (Go.IntKind.i64.wrap (List.getD b1003.fst kind.toNat (0 : Int) + (1 : Int))), List.set b1003.snd.fst (Int.toNat b1007.snd.snd.snd.snd.snd.snd.fst) (Go.IntKind.i64.wrap (List.getD b1003.snd.fst (Int.toNat b1007.snd.snd.snd.snd.snd.snd.fst) (0 : Int) + (1 : Int))), b1003.snd.snd)) (Go.Rf.mput (Go.Rf.eqD ((Go.Rf.Ty.int Go.IntKind.u16).pair Go.Rf.Ty.str).agg) b1007.snd.snd.snd.snd.snd.snd.snd.fst true m1010) m1011
        else
         none
       else
        none
      else
       f17_10 n m x12 x13 (Go.IntKind.i64.wrap (x14 + (1 : Int))) b1002 ((List.set b1003.fst kind.toNat (Go.IntKind.i64.wrap (List.getD b1003.fst kind.toNat (0 : Int) + (1 : Int))), b1003.snd)) (Go.Rf.mput (Go.Rf.eqD ((Go.Rf.Ty.int Go.IntKind.u16).pair Go.Rf.Ty.str).agg) b1007.snd.snd.snd.snd.snd.snd.snd.fst true m1010) m1011
     else
      f17_10 n m x12 x13 (Go.IntKind.i64.wrap (x14 + (1 : Int))) b1002 ((List.set b1003.fst kind.toNat (Go.IntKind.i64.wrap (List.getD b1003.fst kind.toNat (0 : Int) + (1 : Int))), b1003.snd)) (Go.Rf.mput (Go.Rf.eqD ((Go.Rf.Ty.int Go.IntKind.u16).pair Go.Rf.Ty.str).agg) b1007.snd.snd.snd.snd.snd.snd.snd.fst true m1010) m1011
    else
     bif kind == (2 : Int) then
      f17_10 n m x12 x13 (Go.IntKind.i64.wrap (x14 + (1 : Int))) b1002 ((List.set b1003.fst kind.toNat (Go.IntKind.i64.wrap (List.getD b1003.fst kind.toNat (0 : Int) + (1 : Int))), b1003.snd.fst, b1003.snd.snd.fst, b1003.snd.snd.snd.fst, if ↑(Go.Rf.mput (Go.Rf.eqD (Go.Rf.Ty.int Go.IntKind.i64)) b1007.snd.snd.snd.snd.fst true m1011).length > b1003.snd.snd.snd.snd then ↑(Go.Rf.mput (Go.Rf.eqD (Go.Rf.Ty.int Go.IntKind.i64)) b1007.snd.snd.snd.snd.fst true m1011).length else b1003.snd.snd.snd.snd)) m1010 (Go.Rf.mput (Go.Rf.eqD (Go.Rf.Ty.int Go.IntKind.i64)) b1007.snd.snd.snd.snd.fst true m1011)
     else
      bif kind == (5 : Int) then
       bif decide (b1007.snd.snd.snd.snd.snd.snd.snd.snd.snd.fst ≥ (0 : Int)) then
        bif decide (b1007.snd.snd.snd.snd.snd.snd.snd.snd.snd.fst < (6 : Int)) then
         bif decide ((0 : Int) ≤ b1007.snd.snd.snd.snd.snd.snd.snd.snd.snd.fst ∧ b1007.snd.snd.snd.snd.snd.snd.snd.snd.snd.fst < ↑(6 : Nat)) then
          bif decide ((0 : Int) ≤ b1007.snd.snd.snd.snd.snd.snd.snd.snd.snd.fst ∧ b1007.snd.snd.snd.snd.snd.snd.snd.snd.snd.fst < ↑(6 : Nat)) then
           f17_10 n m x12 x13 (Go.IntKind.i64.wrap (x14 + (1 : Int))) b1002 ((List.set b1003.fst kind.toNat (Go.IntKind.i64.wrap (List.getD b1003.fst kind.toNat (0 : Int) + (1 : Int))), b1003.snd.fst, List.set b1003.snd.snd.fst (Int.toNat b1007.snd.snd.snd.snd.snd.snd.snd.snd.snd.fst) (Go.IntKind.i64.wrap (List.getD b1003.snd.snd.fst (Int.toNat b1007.snd.snd.snd.snd.snd.snd.snd.snd.snd.fst) (0 : Int) + (1 : Int))), b1003.snd.snd.snd)) m1010 (Go.Rf.mdel (Go.Rf.eqD (Go.Rf.Ty.int Go.IntKind.i64)) b1007.snd.snd.snd.snd.fst m1011)
          else
           none
         else
          none
        else
         f17_10 n m x12 x13 (Go.IntKind.i64.wrap (x14 + (1 : Int))) b1002 ((List.set b1003.fst kind.toNat (Go.IntKind.i64.wrap (List.getD b1003.fst kind.toNat (0 : Int) + (1 : Int))), b1003.snd)) m1010 (Go.Rf.mdel (Go.Rf.eqD (Go.Rf.Ty.int Go.IntKind.i64)) b1007.snd.snd.snd.snd.fst m1011)
       else
        f17_10 n m x12 x13 (Go.IntKind.i64.wrap (x14 + (1 : Int))) b1002 ((List.set b1003.fst kind.toNat (Go.IntKind.i64.wrap (List.getD b1003.fst kind.toNat (0 : Int) + (1 : Int))), b1003.snd)) m1010 (Go.Rf.mdel (Go.Rf.eqD (Go.Rf.Ty.int Go.IntKind.i64)) b1007.snd.snd.snd.snd.fst m1011)
      else
       f17_10 n m x12 x13 (Go.IntKind.i64.wrap (x14 + (1 : Int))) b1002 ((List.set b1003.fst kind.toNat (Go.IntKind.i64.wrap (List.getD b1003.fst kind.toNat (0 : Int) + (1 : Int))), b1003.snd)) m1010 m1011
   else
    none
  else
   none := by kernel_rfl
theorem f17_eq (n : Nat) (l : List (Int × (Int × (Int × (Int × (Int × (Int × (Int × ((Int × ByteArray) × (Int × (Int × (Int × Int)))))))))))) : f17 n l =
  f17_10 n n l ↑l.length (0 : Int) (([(0 : Int), (0 : Int), (0 : Int), (0 : Int), (0 : Int), (0 : Int), (0 : Int), (0 : Int), (0 : Int), (0 : Int), (0 : Int), (0 : Int)], [(0 : Int), (0 : Int), (0 : Int), (0 : Int), (0 : Int), (0 : Int), (0 : Int)], [(0 : Int), (0 : Int), (0 : Int), (0 : Int), (0 : Int), (0 : Int)], (0 : Int), (0 : Int))) (([(0 : Int), (0 : Int), (0 : Int), (0 : Int), (0 : Int), (0 : Int), (0 : Int), (0 : Int), (0 : Int), (0 : Int), (0 : Int), (0 : Int)], [(0 : Int), (0 : Int), (0 : Int), (0 : Int), (0 : Int), (0 : Int), (0 : Int)], [(0 : Int), (0 : Int), (0 : Int), (0 : Int), (0 : Int), (0 : Int)], (0 : Int), (0 : Int))) [] [] := by kernel_rfl
/- convoy/convoylaw26.awake -/
noncomputable def c20 : Cfg := ⟨20, Try.f20, [], [.bool], 5, [], []⟩
noncomputable def T20 (n : Nat) : List Entry := [e17 n]
noncomputable def e20 (n : Nat) : Entry := c20.entry Try.prog (T20 n) n
theorem ok20 (n : Nat) : FnOK Try.prog (e20 n) := c20.sound (.cons (ok17 n) .nil) n Try.func20 (by kernel_rfl) (by kernel_rfl)
noncomputable def f20 (n : Nat) : Option (Bool) := c20.f Try.prog (T20 n) n ()
theorem f20_eq (n : Nat) : f20 n =
  (f17 n [((0 : Int), (1 : Int), (0 : Int), (0 : Int), (0 : Int), (0 : Int), (1 : Int), ((0 : Int), ByteArray.empty), (0 : Int), (0 : Int), (0 : Int), (0 : Int))]).bind fun r1 =>
  bif List.getD r1.fst (1 : Nat) (0 : Int) == (1 : Int) then
   bif List.getD r1.snd.fst (1 : Nat) (0 : Int) == (1 : Int) then
    some (r1.snd.snd.snd.fst == (1 : Int))
   else
    some false
  else
   some false := by kernel_rfl
/- convoy/convoyref26.product -/
noncomputable def c79 : Cfg := ⟨79, Try.f79, [(.int .u64), (.int .u64)], [(.int .u64), (.int .u64)], 6, [], [(6, ⟨38, 6, [(0, (.val (.int .u64))), (1, (.val (.int .u64))), (6, (.val (.int .u64))), (7, (.val (.int .u64))), (8, (.val (.int .i64)))], []⟩)]⟩
noncomputable def T79 (_ : Nat) : List Entry := []
noncomputable def e79 (n : Nat) : Entry := c79.entry Try.prog (T79 n) n
theorem ok79 (n : Nat) : FnOK Try.prog (e79 n) := c79.sound .nil n Try.func79 (by kernel_rfl) (by kernel_rfl)
noncomputable def f79 (n : Nat) (a : Int) (b : Int) : Option (Int × Int) := c79.f Try.prog (T79 n) n (a, b)
noncomputable def f79_6 (n m : Nat) (a : Int) (b : Int) (high : Int) (low : Int) (i : Int) : Option (Int × Int) := c79.LL Try.prog (T79 n) m 6 (a, b, high, low, i) ()
theorem f79_6_zero (n : Nat) (a : Int) (b : Int) (high : Int) (low : Int) (i : Int) : f79_6 n 0 a b high low i = none := rfl
theorem f79_6_eq (n m : Nat) (a : Int) (b : Int) (high : Int) (low : Int) (i : Int) : f79_6 n (m + 1) a b high low i =
  bif decide (i < (64 : Int)) then
   bif decide (low ≥ (9223372036854775808 : Int)) then
    bif decide (a ≥ (9223372036854775808 : Int)) then
     bif decide (Go.IntKind.u64.wrap (Go.IntKind.u64.wrap ((2 : Int) * low) + b) < Go.IntKind.u64.wrap ((2 : Int) * low)) then
      f79_6 n m (Go.IntKind.u64.wrap (a * (2 : Int))) b (Go.IntKind.u64.wrap (Go.IntKind.u64.wrap (Go.IntKind.u64.wrap ((2 : Int) * high) + (1 : Int)) + (1 : Int))) (Go.IntKind.u64.wrap (Go.IntKind.u64.wrap ((2 : Int) * low) + b)) (Go.IntKind.i64.wrap (i + (1 : Int)))
     else
      f79_6 n m (Go.IntKind.u64.wrap (a * (2 : Int))) b (Go.IntKind.u64.wrap (Go.IntKind.u64.wrap ((2 : Int) * high) + (1 : Int))) (Go.IntKind.u64.wrap (Go.IntKind.u64.wrap ((2 : Int) * low) + b)) (Go.IntKind.i64.wrap (i + (1 : Int)))
    else
     f79_6 n m (Go.IntKind.u64.wrap (a * (2 : Int))) b (Go.IntKind.u64.wrap (Go.IntKind.u64.wrap ((2 : Int) * high) + (1 : Int))) (Go.IntKind.u64.wrap ((2 : Int) * low)) (Go.IntKind.i64.wrap (i + (1 : Int)))
   else
    bif decide (a ≥ (9223372036854775808 : Int)) then
     bif decide (Go.IntKind.u64.wrap (Go.IntKind.u64.wrap ((2 : Int) * low) + b) < Go.IntKind.u64.wrap ((2 : Int) * low)) then
      f79_6 n m (Go.IntKind.u64.wrap (a * (2 : Int))) b (Go.IntKind.u64.wrap (Go.IntKind.u64.wrap (Go.IntKind.u64.wrap ((2 : Int) * high) + (0 : Int)) + (1 : Int))) (Go.IntKind.u64.wrap (Go.IntKind.u64.wrap ((2 : Int) * low) + b)) (Go.IntKind.i64.wrap (i + (1 : Int)))
     else
      f79_6 n m (Go.IntKind.u64.wrap (a * (2 : Int))) b (Go.IntKind.u64.wrap (Go.IntKind.u64.wrap ((2 : Int) * high) + (0 : Int))) (Go.IntKind.u64.wrap (Go.IntKind.u64.wrap ((2 : Int) * low) + b)) (Go.IntKind.i64.wrap (i + (1 : Int)))
    else
     f79_6 n m (Go.IntKind.u64.wrap (a * (2 : Int))) b (Go.IntKind.u64.wrap (Go.IntKind.u64.wrap ((2 : Int) * high) + (0 : Int))) (Go.IntKind.u64.wrap ((2 : Int) * low)) (Go.IntKind.i64.wrap (i + (1 : Int)))
  else
   some (high, low) := by kernel_rfl
theorem f79_eq (n : Nat) (a : Int) (b : Int) : f79 n a b =
  f79_6 n n a b (0 : Int) (0 : Int) (0 : Int) := by kernel_rfl
/- convoy/tally.Quantile -/
noncomputable def c43 : Cfg := ⟨43, Try.f43, [(.arr 64 (.int .i64)), (.int .i64), (.int .i64)], [(.int .i64), (.int .i64)], 7, [], [(10, ⟨98, 7, [(1, (.val (.int .i64))), (2, (.val (.int .i64))), (3, (.ptr 1003 [])), (8, (.val (.int .u64))), (32, (.val (.arr 64 (.int .i64)))), (33, (.val (.int .i64)))], [(1003, .box (.val (.arr 64 (.int .i64))))]⟩), (28, ⟨98, 7, [(2, (.val (.int .i64))), (8, (.val (.int .u64))), (11, (.val (.int .u64))), (12, (.val (.int .u64))), (13, (.val (.int .u64))), (57, (.val (.arr 64 (.int .i64)))), (58, (.val (.int .i64)))], []⟩)]⟩
noncomputable def T43 (n : Nat) : List Entry := [e78 n, e47 n]
noncomputable def e43 (n : Nat) : Entry := c43.entry Try.prog (T43 n) n
theorem ok43 (n : Nat) : FnOK Try.prog (e43 n) := c43.sound (.cons (ok78 n) (.cons (ok47 n) .nil)) n Try.func43 (by kernel_rfl) (by kernel_rfl)
noncomputable def f43 (n : Nat) (b : List Int) (part : Int) (of : Int) : Option (Int × Int) := c43.f Try.prog (T43 n) n (b, part, of)
noncomputable def f43_10 (n m : Nat) (part : Int) (of : Int) (all : Int) (x32 : List Int) (x33 : Int) (b1003 : List Int) : Option (Int × Int) := c43.LL Try.prog (T43 n) m 10 (part, of, (), all, x32, x33) (b1003, ())
noncomputable def f43_28 (n m : Nat) (of : Int) (all : Int) (wantHigh : Int) (wantLow : Int) (sum : Int) (x57 : List Int) (x58 : Int) : Option (Int × Int) := c43.LL Try.prog (T43 n) m 28 (of, all, wantHigh, wantLow, sum, x57, x58) ()
theorem f43_10_zero (n : Nat) (part : Int) (of : Int) (all : Int) (x32 : List Int) (x33 : Int) (b1003 : List Int) : f43_10 n 0 part of all x32 x33 b1003 = none := rfl
theorem f43_10_eq (n m : Nat) (part : Int) (of : Int) (all : Int) (x32 : List Int) (x33 : Int) (b1003 : List Int) : f43_10 n (m + 1) part of all x32 x33 b1003 =
  bif decide (x33 < (64 : Int)) then
   bif decide ((0 : Int) ≤ x33 ∧ x33 < ↑(64 : Nat)) then
    bif decide (x32.getD x33.toNat (0 : Int) < (0 : Int)) then
     some ((0 : Int), (1 : Int))
    else
     bif decide (Go.IntKind.u64.wrap (x32.getD x33.toNat (0 : Int)) > Go.IntKind.u64.wrap ((4611686018427387904 : Int) - all)) then
      some ((0 : Int), (1 : Int))
     else
      f43_10 n m part of (Go.IntKind.u64.wrap (all + Go.IntKind.u64.wrap (x32.getD x33.toNat (0 : Int)))) x32 (Go.IntKind.i64.wrap (x33 + (1 : Int))) b1003
   else
    none
  else
   (f78 n all (Go.IntKind.u64.wrap part)).bind fun r1 =>
   f43_28 n m of all r1.fst r1.snd (0 : Int) b1003 (0 : Int) := by kernel_rfl
theorem f43_28_zero (n : Nat) (of : Int) (all : Int) (wantHigh : Int) (wantLow : Int) (sum : Int) (x57 : List Int) (x58 : Int) : f43_28 n 0 of all wantHigh wantLow sum x57 x58 = none := rfl
theorem f43_28_eq (n m : Nat) (of : Int) (all : Int) (wantHigh : Int) (wantLow : Int) (sum : Int) (x57 : List Int) (x58 : Int) : f43_28 n (m + 1) of all wantHigh wantLow sum x57 x58 =
  bif decide (x58 < (64 : Int)) then
   bif decide ((0 : Int) ≤ x58 ∧ x58 < ↑(64 : Nat)) then
    (f78 n (Go.IntKind.u64.wrap (sum + Go.IntKind.u64.wrap (x57.getD x58.toNat (0 : Int)))) (Go.IntKind.u64.wrap of)).bind fun r1 =>
    bif decide (all > (0 : Int)) then
     bif decide (r1.fst > wantHigh) then
      (f47 n x58).bind fun r2 =>
      some (r2.snd.fst, (0 : Int))
     else
      bif r1.fst == wantHigh then
       bif decide (r1.snd ≥ wantLow) then
        (f47 n x58).bind fun r3 =>
        some (r3.snd.fst, (0 : Int))
       else
        f43_28 n m of all wantHigh wantLow (Go.IntKind.u64.wrap (sum + Go.IntKind.u64.wrap (x57.getD x58.toNat (0 : Int)))) x57 (Go.IntKind.i64.wrap (x58 + (1 : Int)))
      else
       f43_28 n m of all wantHigh wantLow (Go.IntKind.u64.wrap (sum + Go.IntKind.u64.wrap (x57.getD x58.toNat (0 : Int)))) x57 (Go.IntKind.i64.wrap (x58 + (1 : Int)))
    else
     f43_28 n m of all wantHigh wantLow (Go.IntKind.u64.wrap (sum + Go.IntKind.u64.wrap (x57.getD x58.toNat (0 : Int)))) x57 (Go.IntKind.i64.wrap (x58 + (1 : Int)))
   else
    none
  else
   some ((0 : Int), (0 : Int)) := by kernel_rfl
theorem f43_eq (n : Nat) (b : List Int) (part : Int) (of : Int) : f43 n b part of =
  bif decide (of < (1 : Int)) then
   some ((0 : Int), (1 : Int))
  else
   bif decide (part < (0 : Int)) then
    some ((0 : Int), (1 : Int))
   else
    bif decide (part > of) then
     some ((0 : Int), (1 : Int))
    else
     f43_10 n n part of (0 : Int) b (0 : Int) b := by kernel_rfl
/- convoy/convoyref26.Quantile -/
noncomputable def c44 : Cfg := ⟨44, Try.f44, [(.arr 64 (.int .i64)), (.int .i64), (.int .i64)], [(.int .i64), .bool], 7, [], [(10, ⟨93, 7, [(1, (.val (.int .i64))), (2, (.val (.int .i64))), (3, (.ptr 1003 [])), (8, (.val (.int .i64))), (30, (.val (.arr 64 (.int .i64)))), (31, (.val (.int .i64)))], [(1003, .box (.val (.arr 64 (.int .i64))))]⟩), (32, ⟨93, 7, [(2, (.val (.int .i64))), (11, (.val (.int .u64))), (12, (.val (.int .u64))), (13, (.val (.int .i64))), (14, (.val (.int .i64))), (56, (.val (.arr 64 (.int .i64)))), (57, (.val (.int .i64)))], []⟩)]⟩
noncomputable def T44 (n : Nat) : List Entry := [e79 n]
noncomputable def e44 (n : Nat) : Entry := c44.entry Try.prog (T44 n) n
theorem ok44 (n : Nat) : FnOK Try.prog (e44 n) := c44.sound (.cons (ok79 n) .nil) n Try.func44 (by kernel_rfl) (by kernel_rfl)
noncomputable def f44 (n : Nat) (b : List Int) (part : Int) (of : Int) : Option (Int × Bool) := c44.f Try.prog (T44 n) n (b, part, of)
noncomputable def f44_10 (n m : Nat) (part : Int) (of : Int) (all : Int) (x30 : List Int) (x31 : Int) (b1003 : List Int) : Option (Int × Bool) := c44.LL Try.prog (T44 n) m 10 (part, of, (), all, x30, x31) (b1003, ())
noncomputable def f44_32 (n m : Nat) (of : Int) (wh : Int) (wl : Int) (sum : Int) (edge : Int) (x56 : List Int) (x57 : Int) : Option (Int × Bool) := c44.LL Try.prog (T44 n) m 32 (of, wh, wl, sum, edge, x56, x57) ()
theorem f44_10_zero (n : Nat) (part : Int) (of : Int) (all : Int) (x30 : List Int) (x31 : Int) (b1003 : List Int) : f44_10 n 0 part of all x30 x31 b1003 = none := rfl
theorem f44_10_eq (n m : Nat) (part : Int) (of : Int) (all : Int) (x30 : List Int) (x31 : Int) (b1003 : List Int) : f44_10 n (m + 1) part of all x30 x31 b1003 =
  bif decide (x31 < (64 : Int)) then
   bif decide ((0 : Int) ≤ x31 ∧ x31 < ↑(64 : Nat)) then
    bif decide (x30.getD x31.toNat (0 : Int) < (0 : Int)) then
     some ((0 : Int), false)
    else
     bif decide (x30.getD x31.toNat (0 : Int) > Go.IntKind.i64.wrap ((4611686018427387904 : Int) - all)) then
      some ((0 : Int), false)
     else
      f44_10 n m part of (Go.IntKind.i64.wrap (all + x30.getD x31.toNat (0 : Int))) x30 (Go.IntKind.i64.wrap (x31 + (1 : Int))) b1003
   else
    none
  else
   bif all == (0 : Int) then
    some ((0 : Int), true)
   else
    (f79 n (Go.IntKind.u64.wrap all) (Go.IntKind.u64.wrap part)).bind fun r1 =>
    f44_32 n m of r1.fst r1.snd (0 : Int) (0 : Int) b1003 (0 : Int) := by kernel_rfl
theorem f44_32_zero (n : Nat) (of : Int) (wh : Int) (wl : Int) (sum : Int) (edge : Int) (x56 : List Int) (x57 : Int) : f44_32 n 0 of wh wl sum edge x56 x57 = none := rfl
theorem f44_32_eq (n m : Nat) (of : Int) (wh : Int) (wl : Int) (sum : Int) (edge : Int) (x56 : List Int) (x57 : Int) : f44_32 n (m + 1) of wh wl sum edge x56 x57 =
  bif decide (x57 < (64 : Int)) then
   bif decide ((0 : Int) ≤ x57 ∧ x57 < ↑(64 : Nat)) then
    (f79 n (Go.IntKind.u64.wrap (Go.IntKind.i64.wrap (sum + x56.getD x57.toNat (0 : Int)))) (Go.IntKind.u64.wrap of)).bind fun r1 =>
    bif decide (r1.fst > wh) then
     some (edge, true)
    else
     bif r1.fst == wh then
      bif decide (r1.snd ≥ wl) then
       some (edge, true)
      else
       bif decide (x57 < (63 : Int)) then
        f44_32 n m of wh wl (Go.IntKind.i64.wrap (sum + x56.getD x57.toNat (0 : Int))) (Go.IntKind.i64.wrap (Go.IntKind.i64.wrap ((2 : Int) * edge) + (1 : Int))) x56 (Go.IntKind.i64.wrap (x57 + (1 : Int)))
       else
        f44_32 n m of wh wl (Go.IntKind.i64.wrap (sum + x56.getD x57.toNat (0 : Int))) edge x56 (Go.IntKind.i64.wrap (x57 + (1 : Int)))
     else
      bif decide (x57 < (63 : Int)) then
       f44_32 n m of wh wl (Go.IntKind.i64.wrap (sum + x56.getD x57.toNat (0 : Int))) (Go.IntKind.i64.wrap (Go.IntKind.i64.wrap ((2 : Int) * edge) + (1 : Int))) x56 (Go.IntKind.i64.wrap (x57 + (1 : Int)))
      else
       f44_32 n m of wh wl (Go.IntKind.i64.wrap (sum + x56.getD x57.toNat (0 : Int))) edge x56 (Go.IntKind.i64.wrap (x57 + (1 : Int)))
   else
    none
  else
   some (edge, true) := by kernel_rfl
theorem f44_eq (n : Nat) (b : List Int) (part : Int) (of : Int) : f44 n b part of =
  bif decide (of < (1 : Int)) then
   some ((0 : Int), false)
  else
   bif decide (part < (0 : Int)) then
    some ((0 : Int), false)
   else
    bif decide (part > of) then
     some ((0 : Int), false)
    else
     f44_10 n n part of (0 : Int) b (0 : Int) b := by kernel_rfl
/- convoy/convoylaw26.TallyQuantiles -/
noncomputable def c8 : Cfg := ⟨8, Try.f8, [(.arr 64 (.int .i64)), (.int .i64), (.int .i64)], [.bool], 7, [], []⟩
noncomputable def T8 (n : Nat) : List Entry := [e43 n, e44 n, e20 n]
noncomputable def e8 (n : Nat) : Entry := c8.entry Try.prog (T8 n) n
theorem ok8 (n : Nat) : FnOK Try.prog (e8 n) := c8.sound (.cons (ok43 n) (.cons (ok44 n) (.cons (ok20 n) .nil))) n Try.func8 (by kernel_rfl) (by kernel_rfl)
noncomputable def f8 (n : Nat) (b : List Int) (part : Int) (of : Int) : Option (Bool) := c8.f Try.prog (T8 n) n (b, part, of)
theorem f8_eq (n : Nat) (b : List Int) (part : Int) (of : Int) : f8 n b part of =
  (f43 n b part of).bind fun r1 =>
  (f44 n b part of).bind fun r2 =>
  (f20 n).bind fun r3 =>
  bif !r3 then
   some false
  else
   bif r1.fst != r2.fst then
    some false
   else
    bif !(r1.snd == (0 : Int)) == r2.snd then
     some false
    else
     bif !r2.snd then
      bif r1.snd != (1 : Int) then
       some false
      else
       bif !r2.snd then
        some true
       else
        (f43 n b (0 : Int) of).bind fun r4 =>
        (f43 n b of of).bind fun r5 =>
        bif r4.snd == (0 : Int) then
         bif r5.snd == (0 : Int) then
          bif r4.fst == (0 : Int) then
           bif decide (r4.fst ≤ r1.fst) then
            some (decide (r1.fst ≤ r5.fst))
           else
            some false
          else
           some false
         else
          some false
        else
         some false
     else
      bif !r2.snd then
       some true
      else
       (f43 n b (0 : Int) of).bind fun r6 =>
       (f43 n b of of).bind fun r7 =>
       bif r6.snd == (0 : Int) then
        bif r7.snd == (0 : Int) then
         bif r6.fst == (0 : Int) then
          bif decide (r6.fst ≤ r1.fst) then
           some (decide (r1.fst ≤ r7.fst))
          else
           some false
         else
          some false
        else
         some false
       else
        some false := by kernel_rfl
end Go.Proofs.Ytnlnfmakcnadlaa
