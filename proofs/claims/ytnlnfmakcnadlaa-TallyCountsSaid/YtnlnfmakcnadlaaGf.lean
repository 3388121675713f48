/- What functions compute: printed, and checked by the kernel. -/
import Derived.Test.YtnlnfmakcnadlaaGd
namespace Go.Proofs.Ytnlnfmakcnadlaa
open Go.Rf
/- convoy/tally.Merge -/
noncomputable def c21 : Cfg := ⟨21, Try.f21, [(.agg (.pair (.arr 12 (.int .i64)) (.pair (.arr 7 (.int .i64)) (.pair (.arr 6 (.int .i64)) (.pair (.int .i64) (.int .i64)))))), (.agg (.pair (.arr 12 (.int .i64)) (.pair (.arr 7 (.int .i64)) (.pair (.arr 6 (.int .i64)) (.pair (.int .i64) (.int .i64))))))], [(.agg (.pair (.arr 12 (.int .i64)) (.pair (.arr 7 (.int .i64)) (.pair (.arr 6 (.int .i64)) (.pair (.int .i64) (.int .i64))))))], 7, [], [(4, ⟨69, 7, [(2, (.ptr 1002 [])), (3, (.ptr 1003 [])), (4, (.ptr 1004 [])), (12, (.val (.arr 12 (.int .i64)))), (13, (.val (.int .i64)))], [(1002, .box (.val (.agg (.pair (.arr 12 (.int .i64)) (.pair (.arr 7 (.int .i64)) (.pair (.arr 6 (.int .i64)) (.pair (.int .i64) (.int .i64)))))))), (1003, .box (.val (.agg (.pair (.arr 12 (.int .i64)) (.pair (.arr 7 (.int .i64)) (.pair (.arr 6 (.int .i64)) (.pair (.int .i64) (.int .i64)))))))), (1004, .box (.val (.agg (.pair (.arr 12 (.int .i64)) (.pair (.arr 7 (.int .i64)) (.pair (.arr 6 (.int .i64)) (.pair (.int .i64) (.int .i64))))))))]⟩), (14, ⟨69, 7, [(2, (.ptr 1002 [])), (3, (.ptr 1003 [])), (4, (.ptr 1004 [])), (27, (.val (.arr 7 (.int .i64)))), (28, (.val (.int .i64)))], [(1002, .box (.val (.agg (.pair (.arr 12 (.int .i64)) (.pair (.arr 7 (.int .i64)) (.pair (.arr 6 (.int .i64)) (.pair (.int .i64) (.int .i64)))))))), (1003, .box (.val (.agg (.pair (.arr 12 (.int .i64)) (.pair (.arr 7 (.int .i64)) (.pair (.arr 6 (.int .i64)) (.pair (.int .i64) (.int .i64)))))))), (1004, .box (.val (.agg (.pair (.arr 12 (.int .i64)) (.pair (.arr 7 (.int .i64)) (.pair (.arr 6 (.int .i64)) (.pair (.int .i64) (.int .i64))))))))]⟩), (24, ⟨69, 7, [(2, (.ptr 1002 [])), (3, (.ptr 1003 [])), (4, (.ptr 1004 [])), (42, (.val (.arr 6 (.int .i64)))), (43, (.val (.int .i64)))], [(1002, .box (.val (.agg (.pair (.arr 12 (.int .i64)) (.pair (.arr 7 (.int .i64)) (.pair (.arr 6 (.int .i64)) (.pair (.int .i64) (.int .i64)))))))), (1003, .box (.val (.agg (.pair (.arr 12 (.int .i64)) (.pair (.arr 7 (.int .i64)) (.pair (.arr 6 (.int .i64)) (.pair (.int .i64) (.int .i64)))))))), (1004, .box (.val (.agg (.pair (.arr 12 (.int .i64)) (.pair (.arr 7 (.int .i64)) (.pair (.arr 6 (.int .i64)) (.pair (.int .i64) (.int .i64))))))))]⟩)]⟩
noncomputable def T21 (_ : Nat) : List Entry := []
noncomputable def e21 (n : Nat) : Entry := c21.entry Try.prog (T21 n) n
theorem ok21 (n : Nat) : FnOK Try.prog (e21 n) := c21.sound .nil n Try.func21 (by kernel_rfl) (by kernel_rfl)
noncomputable def f21 (n : Nat) (a : (List Int × (List Int × (List Int × (Int × Int))))) (b : (List Int × (List Int × (List Int × (Int × Int))))) : Option ((List Int × (List Int × (List Int × (Int × Int))))) := c21.f Try.prog (T21 n) n (a, b)
noncomputable def f21_4 (n m : Nat) (x12 : List Int) (x13 : Int) (b1002 : (List Int × (List Int × (List Int × (Int × Int))))) (b1003 : (List Int × (List Int × (List Int × (Int × Int))))) (b1004 : (List Int × (List Int × (List Int × (Int × Int))))) : Option ((List Int × (List Int × (List Int × (Int × Int))))) := c21.LL Try.prog (T21 n) m 4 ((), (), (), x12, x13) (b1002, b1003, b1004, ())
noncomputable def f21_14 (n m : Nat) (x27 : List Int) (x28 : Int) (b1002 : (List Int × (List Int × (List Int × (Int × Int))))) (b1003 : (List Int × (List Int × (List Int × (Int × Int))))) (b1004 : (List Int × (List Int × (List Int × (Int × Int))))) : Option ((List Int × (List Int × (List Int × (Int × Int))))) := c21.LL Try.prog (T21 n) m 14 ((), (), (), x27, x28) (b1002, b1003, b1004, ())
noncomputable def f21_24 (n m : Nat) (x42 : List Int) (x43 : Int) (b1002 : (List Int × (List Int × (List Int × (Int × Int))))) (b1003 : (List Int × (List Int × (List Int × (Int × Int))))) (b1004 : (List Int × (List Int × (List Int × (Int × Int))))) : Option ((List Int × (List Int × (List Int × (Int × Int))))) := c21.LL Try.prog (T21 n) m 24 ((), (), (), x42, x43) (b1002, b1003, b1004, ())
theorem f21_4_zero (n : Nat) (x12 : List Int) (x13 : Int) (b1002 : (List Int × (List Int × (List Int × (Int × Int))))) (b1003 : (List Int × (List Int × (List Int × (Int × Int))))) (b1004 : (List Int × (List Int × (List Int × (Int × Int))))) : f21_4 n 0 x12 x13 b1002 b1003 b1004 = none := rfl
theorem f21_4_eq (n m : Nat) (x12 : List Int) (x13 : Int) (b1002 : (List Int × (List Int × (List Int × (Int × Int))))) (b1003 : (List Int × (List Int × (List Int × (Int × Int))))) (b1004 : (List Int × (List Int × (List Int × (Int × Int))))) : f21_4 n (m + 1) x12 x13 b1002 b1003 b1004 =
  bif decide (x13 < (12 : Int)) then
   bif decide ((0 : Int) ≤ x13 ∧ x13 < ↑(12 : Nat)) then
    bif decide ((0 : Int) ≤ x13 ∧ x13 < ↑(12 : Nat)) then
     bif decide ((0 : Int) ≤ x13 ∧ x13 < ↑(12 : Nat)) then
      f21_4 n m x12 (Go.IntKind.i64.wrap (x13 + (1 : Int))) ((List.set b1002.fst x13.toNat (Go.IntKind.i64.wrap (List.getD b1002.fst x13.toNat (0 : Int) + x12.getD x13.toNat (0 : Int))), b1002.snd)) b1003 b1004
     else
      none
    else
     none
   else
    none
  else
   f21_14 n m b1003.snd.fst (0 : Int) b1002 b1003 b1004 := by kernel_rfl
theorem f21_14_zero (n : Nat) (x27 : List Int) (x28 : Int) (b1002 : (List Int × (List Int × (List Int × (Int × Int))))) (b1003 : (List Int × (List Int × (List Int × (Int × Int))))) (b1004 : (List Int × (List Int × (List Int × (Int × Int))))) : f21_14 n 0 x27 x28 b1002 b1003 b1004 = none := rfl
theorem f21_14_eq (n m : Nat) (x27 : List Int) (x28 : Int) (b1002 : (List Int × (List Int × (List Int × (Int × Int))))) (b1003 : (List Int × (List Int × (List Int × (Int × Int))))) (b1004 : (List Int × (List Int × (List Int × (Int × Int))))) : f21_14 n (m + 1) x27 x28 b1002 b1003 b1004 =
  bif decide (x28 < (7 : Int)) then
   bif decide ((0 : Int) ≤ x28 ∧ x28 < ↑(7 : Nat)) then
    bif decide ((0 : Int) ≤ x28 ∧ x28 < ↑(7 : Nat)) then
     bif decide ((0 : Int) ≤ x28 ∧ x28 < ↑(7 : Nat)) then
      f21_14 n m x27 (Go.IntKind.i64.wrap (x28 + (1 : Int))) ((b1002.fst, List.set b1002.snd.fst x28.toNat (Go.IntKind.i64.wrap (List.getD b1002.snd.fst x28.toNat (0 : Int) + x27.getD x28.toNat (0 : Int))), b1002.snd.snd)) b1003 b1004
     else
      none
    else
     none
   else
    none
  else
   f21_24 n m b1003.snd.snd.fst (0 : Int) b1002 b1003 b1004 := by kernel_rfl
theorem f21_24_zero (n : Nat) (x42 : List Int) (x43 : Int) (b1002 : (List Int × (List Int × (List Int × (Int × Int))))) (b1003 : (List Int × (List Int × (List Int × (Int × Int))))) (b1004 : (List Int × (List Int × (List Int × (Int × Int))))) : f21_24 n 0 x42 x43 b1002 b1003 b1004 = none := rfl
theorem f21_24_eq (n m : Nat) (x42 : List Int) (x43 : Int) (b1002 : (List Int × (List Int × (List Int × (Int × Int))))) (b1003 : (List Int × (List Int × (List Int × (Int × Int))))) (b1004 : (List Int × (List Int × (List Int × (Int × Int))))) : f21_24 n (m + 1) x42 x43 b1002 b1003 b1004 =
  bif decide (x43 < (6 : Int)) then
   bif decide ((0 : Int) ≤ x43 ∧ x43 < ↑(6 : Nat)) then
    bif decide ((0 : Int) ≤ x43 ∧ x43 < ↑(6 : Nat)) then
     bif decide ((0 : Int) ≤ x43 ∧ x43 < ↑(6 : Nat)) then
      f21_24 n m x42 (Go.IntKind.i64.wrap (x43 + (1 : Int))) ((b1002.fst, b1002.snd.fst, List.set b1002.snd.snd.fst x43.toNat (Go.IntKind.i64.wrap (List.getD b1002.snd.snd.fst x43.toNat (0 : Int) + x42.getD x43.toNat (0 : Int))), b1002.snd.snd.snd)) b1003 b1004
     else
      none
    else
     none
   else
    none
  else
   some (b1002.fst, b1002.snd.fst, b1002.snd.snd.fst, if b1003.snd.snd.snd.fst > b1002.snd.snd.snd.fst then b1003.snd.snd.snd.fst else b1002.snd.snd.snd.fst, if b1003.snd.snd.snd.snd > b1002.snd.snd.snd.snd then b1003.snd.snd.snd.snd else b1002.snd.snd.snd.snd) := by kernel_rfl
theorem f21_eq (n : Nat) (a : (List Int × (List Int × (List Int × (Int × Int))))) (b : (List Int × (List Int × (List Int × (Int × Int))))) : f21 n a b =
  f21_4 n n b.fst (0 : Int) a b (([(0 : Int), (0 : Int), (0 : Int), (0 : Int), (0 : Int), (0 : Int), (0 : Int), (0 : Int), (0 : Int), (0 : Int), (0 : Int), (0 : Int)], [(0 : Int), (0 : Int), (0 : Int), (0 : Int), (0 : Int), (0 : Int), (0 : Int)], [(0 : Int), (0 : Int), (0 : Int), (0 : Int), (0 : Int), (0 : Int)], (0 : Int), (0 : Int))) := by kernel_rfl
/- convoy/convoyref02.Unlike -/
noncomputable def c92 : Cfg := ⟨92, Try.f92, [(.sl 136 (.agg (.pair (.int .u16) .str)))], [(.sl 136 (.agg (.pair (.int .u16) .str)))], 6, [], [(6, ⟨37, 6, [(3, (.rs 1009)), (10, (.val (.sl 136 (.agg (.pair (.int .u16) .str))))), (11, (.val (.int .i64))), (12, (.val (.int .i64)))], [(1009, .row 136 (.agg (.pair (.int .u16) .str)))]⟩), (14, ⟨37, 6, [(3, (.rs 1009)), (5, (.ptr 1005 [])), (6, (.val .bool)), (10, (.val (.sl 136 (.agg (.pair (.int .u16) .str))))), (11, (.val (.int .i64))), (12, (.val (.int .i64))), (16, (.rs 1009)), (17, (.val (.int .i64))), (18, (.val (.int .i64)))], [(1005, .box (.val (.agg (.pair (.int .u16) .str)))), (1009, .row 136 (.agg (.pair (.int .u16) .str)))]⟩)]⟩
noncomputable def T92 (_ : Nat) : List Entry := []
noncomputable def e92 (n : Nat) : Entry := c92.entry Try.prog (T92 n) n
theorem ok92 (n : Nat) : FnOK Try.prog (e92 n) := c92.sound .nil n Try.func92 (by kernel_rfl) (by kernel_rfl)
noncomputable def f92 (n : Nat) (l : List (Int × ByteArray)) : Option (List (Int × ByteArray)) := c92.f Try.prog (T92 n) n l
noncomputable def f92_6 (n m : Nat) (x10 : List (Int × ByteArray)) (x11 : Int) (x12 : Int) (l1009 : List (Int × ByteArray)) : Option (List (Int × ByteArray)) := c92.LL Try.prog (T92 n) m 6 ((), x10, x11, x12) (l1009, ())
noncomputable def f92_14 (n m : Nat) (known : Bool) (x10 : List (Int × ByteArray)) (x11 : Int) (x12 : Int) (x17 : Int) (x18 : Int) (b1005 : (Int × ByteArray)) (l1009 : List (Int × ByteArray)) : Option (List (Int × ByteArray)) := c92.LL Try.prog (T92 n) m 14 ((), (), known, x10, x11, x12, (), x17, x18) (b1005, l1009, ())
theorem f92_6_zero (n : Nat) (x10 : List (Int × ByteArray)) (x11 : Int) (x12 : Int) (l1009 : List (Int × ByteArray)) : f92_6 n 0 x10 x11 x12 l1009 = none := rfl
theorem f92_6_eq (n m : Nat) (x10 : List (Int × ByteArray)) (x11 : Int) (x12 : Int) (l1009 : List (Int × ByteArray)) : f92_6 n (m + 1) x10 x11 x12 l1009 =
  bif decide (x12 < x11) then
   bif decide ((0 : Int) ≤ x12 ∧ x12 < ↑x10.length) then
    f92_14 n m false x10 x11 x12 ↑l1009.length (0 : Int) (x10.getD x12.toNat ((0 : Int), ByteArray.empty)) l1009
   else
    none
  else
   some l1009 := by kernel_rfl
theorem f92_14_zero (n : Nat) (known : Bool) (x10 : List (Int × ByteArray)) (x11 : Int) (x12 : Int) (x17 : Int) (x18 : Int) (b1005 : (Int × ByteArray)) (l1009 : List (Int × ByteArray)) : f92_14 n 0 known x10 x11 x12 x17 x18 b1005 l1009 = none := rfl
theorem f92_14_eq (n m : Nat) (known : Bool) (x10 : List (Int × ByteArray)) (x11 : Int) (x12 : Int) (x17 : Int) (x18 : Int) (b1005 : (Int × ByteArray)) (l1009 : List (Int × ByteArray)) : f92_14 n (m + 1) known x10 x11 x12 x17 x18 b1005 l1009 =
  bif decide (x18 < x17) then
   bif decide ((0 : Int) ≤ x18 ∧ x18 < ↑l1009.length) then
    bif known then
     f92_14 n m true x10 x11 x12 x17 (Go.IntKind.i64.wrap (x18 + (1 : Int))) b1005 l1009
    else
     f92_14 n m ((l1009.getD x18.toNat ((0 : Int), ByteArray.empty)).fst == b1005.fst && (l1009.getD x18.toNat ((0 : Int), ByteArray.empty)).snd == b1005.snd) x10 x11 x12 x17 (Go.IntKind.i64.wrap (x18 + (1 : Int))) b1005 l1009
   else
    none
  else
   bif !known then
    bif decide ((l1009.length + [b1005].length) * (24 : Nat) ≤ Go.Rf.maxBytes) then
     f92_6 n m x10 x11 (Go.IntKind.i64.wrap (x12 + (1 : Int))) (l1009 ++ [b1005])
    else
     none
   else
    f92_6 n m x10 x11 (Go.IntKind.i64.wrap (x12 + (1 : Int))) l1009 := by kernel_rfl
theorem f92_eq (n : Nat) (l : List (Int × ByteArray)) : f92 n l =
  f92_6 n n l ↑l.length (0 : Int) [] := by kernel_rfl
/- convoy/convoyref26.keysOf -/
noncomputable def c74 : Cfg := ⟨74, Try.f74, [(.sl 141 (.agg (.pair (.int .i64) (.pair (.int .i64) (.pair (.int .i64) (.pair (.int .i64) (.pair (.int .i64) (.pair (.int .i64) (.pair (.int .i64) (.pair (.agg (.pair (.int .u16) .str)) (.agg (.pair (.int .i64) (.agg (.pair (.int .i64) (.pair (.int .i64) (.int .i64))))))))))))))))], [(.sl 136 (.agg (.pair (.int .u16) .str)))], 5, [], [(6, ⟨24, 5, [(3, (.rs 1006)), (7, (.val (.sl 141 (.agg (.pair (.int .i64) (.pair (.int .i64) (.pair (.int .i64) (.pair (.int .i64) (.pair (.int .i64) (.pair (.int .i64) (.pair (.int .i64) (.pair (.agg (.pair (.int .u16) .str)) (.agg (.pair (.int .i64) (.agg (.pair (.int .i64) (.pair (.int .i64) (.int .i64)))))))))))))))))), (8, (.val (.int .i64))), (9, (.val (.int .i64)))], [(1006, .row 136 (.agg (.pair (.int .u16) .str)))]⟩)]⟩
noncomputable def T74 (n : Nat) : List Entry := [e92 n]
noncomputable def e74 (n : Nat) : Entry := c74.entry Try.prog (T74 n) n
theorem ok74 (n : Nat) : FnOK Try.prog (e74 n) := c74.sound (.cons (ok92 n) .nil) n Try.func74 (by kernel_rfl) (by kernel_rfl)
noncomputable def f74 (n : Nat) (l : List (Int × (Int × (Int × (Int × (Int × (Int × (Int × ((Int × ByteArray) × (Int × (Int × (Int × Int)))))))))))) : Option (List (Int × ByteArray)) := c74.f Try.prog (T74 n) n l
noncomputable def f74_6 (n m : Nat) (x7 : List (Int × (Int × (Int × (Int × (Int × (Int × (Int × ((Int × ByteArray) × (Int × (Int × (Int × Int)))))))))))) (x8 : Int) (x9 : Int) (l1006 : List (Int × ByteArray)) : Option (List (Int × ByteArray)) := c74.LL Try.prog (T74 n) m 6 ((), x7, x8, x9) (l1006, ())
theorem f74_6_zero (n : Nat) (x7 : List (Int × (Int × (Int × (Int × (Int × (Int × (Int × ((Int × ByteArray) × (Int × (Int × (Int × Int)))))))))))) (x8 : Int) (x9 : Int) (l1006 : List (Int × ByteArray)) : f74_6 n 0 x7 x8 x9 l1006 = none := rfl
theorem f74_6_eq (n m : Nat) (x7 : List (Int × (Int × (Int × (Int × (Int × (Int × (Int × ((Int × ByteArray) × (Int × (Int × (Int × Int)))))))))))) (x8 : Int) (x9 : Int) (l1006 : List (Int × ByteArray)) : f74_6 n (m + 1) x7 x8 x9 l1006 =
  bif decide (x9 < x8) then
   bif decide ((0 : Int) ≤ x9 ∧ x9 < ↑x7.length) then
    bif (x7.getD x9.toNat ((0 : Int), (0 : Int), (0 : Int), (0 : Int), (0 : Int), (0 : Int), (0 : Int), ((0 : Int), ByteArray.empty), (0 : Int), (0 : Int), (0 : Int), (0 : Int))).snd.fst == (1 : Int) then
     bif decide ((l1006.length + [(x7.getD x9.toNat ((0 : Int), (0 : Int), (0 : Int), (0 : Int), (0 : Int), (0 : Int), (0 : Int), ((0 : Int), ByteArray.empty), (0 : Int), (0 : Int), (0 : Int), (0 : Int))).snd.snd.snd.snd.snd.snd.snd.fst].length) * (24 : Nat) ≤ Go.Rf.maxBytes) then
      f74_6 n m x7 x8 (Go.IntKind.i64.wrap (x9 + (1 : Int))) (l1006 ++ [(x7.getD x9.toNat ((0 : Int), (0 : Int), (0 : Int), (0 : Int), (0 : Int), (0 : Int), (0 : Int), ((0 : Int), ByteArray.empty), (0 : Int), (0 : Int), (0 : Int), (0 : Int))).snd.snd.snd.snd.snd.snd.snd.fst])
     else
      none
    else
     f74_6 n m x7 x8 (Go.IntKind.i64.wrap (x9 + (1 : Int))) l1006
   else
    none
  else
   (f92 n l1006).bind fun r1 =>
   some r1 := by kernel_rfl
theorem f74_eq (n : Nat) (l : List (Int × (Int × (Int × (Int × (Int × (Int × (Int × ((Int × ByteArray) × (Int × (Int × (Int × Int)))))))))))) : f74 n l =
  f74_6 n n l ↑l.length (0 : Int) [] := by kernel_rfl
/- convoy/convoyref26.Of -/
noncomputable def c18 : Cfg := ⟨18, Try.f18, [(.sl 141 (.agg (.pair (.int .i64) (.pair (.int .i64) (.pair (.int .i64) (.pair (.int .i64) (.pair (.int .i64) (.pair (.int .i64) (.pair (.int .i64) (.pair (.agg (.pair (.int .u16) .str)) (.agg (.pair (.int .i64) (.agg (.pair (.int .i64) (.pair (.int .i64) (.int .i64))))))))))))))))], [(.agg (.pair (.arr 12 (.int .i64)) (.pair (.arr 7 (.int .i64)) (.pair (.arr 6 (.int .i64)) (.pair (.int .i64) (.int .i64))))))], 8, [9, 11, 14, 23, 25], [(8, ⟨130, 8, [(2, (.ptr 1002 [])), (3, (.ptr 1003 [])), (4, (.rs 1015)), (16, (.val (.sl 141 (.agg (.pair (.int .i64) (.pair (.int .i64) (.pair (.int .i64) (.pair (.int .i64) (.pair (.int .i64) (.pair (.int .i64) (.pair (.int .i64) (.pair (.agg (.pair (.int .u16) .str)) (.agg (.pair (.int .i64) (.agg (.pair (.int .i64) (.pair (.int .i64) (.int .i64)))))))))))))))))), (17, (.val (.int .i64))), (18, (.val (.int .i64)))], [(1002, .box (.val (.agg (.pair (.arr 12 (.int .i64)) (.pair (.arr 7 (.int .i64)) (.pair (.arr 6 (.int .i64)) (.pair (.int .i64) (.int .i64)))))))), (1003, .box (.val (.agg (.pair (.arr 12 (.int .i64)) (.pair (.arr 7 (.int .i64)) (.pair (.arr 6 (.int .i64)) (.pair (.int .i64) (.int .i64)))))))), (1015, .row 3 (.int .i64))]⟩), (19, ⟨130, 8, [(2, (.ptr 1002 [])), (3, (.ptr 1003 [])), (4, (.rs 1015)), (6, (.ptr 1006 [])), (16, (.val (.sl 141 (.agg (.pair (.int .i64) (.pair (.int .i64) (.pair (.int .i64) (.pair (.int .i64) (.pair (.int .i64) (.pair (.int .i64) (.pair (.int .i64) (.pair (.agg (.pair (.int .u16) .str)) (.agg (.pair (.int .i64) (.agg (.pair (.int .i64) (.pair (.int .i64) (.int .i64)))))))))))))))))), (17, (.val (.int .i64))), (18, (.val (.int .i64)))], [(1002, .box (.val (.agg (.pair (.arr 12 (.int .i64)) (.pair (.arr 7 (.int .i64)) (.pair (.arr 6 (.int .i64)) (.pair (.int .i64) (.int .i64)))))))), (1003, .box (.val (.agg (.pair (.arr 12 (.int .i64)) (.pair (.arr 7 (.int .i64)) (.pair (.arr 6 (.int .i64)) (.pair (.int .i64) (.int .i64)))))))), (1006, .box (.val (.agg (.pair (.int .i64) (.pair (.int .i64) (.pair (.int .i64) (.pair (.int .i64) (.pair (.int .i64) (.pair (.int .i64) (.pair (.int .i64) (.pair (.agg (.pair (.int .u16) .str)) (.agg (.pair (.int .i64) (.agg (.pair (.int .i64) (.pair (.int .i64) (.int .i64))))))))))))))))), (1015, .row 3 (.int .i64))]⟩), (23, ⟨130, 8, [(2, (.ptr 1002 [])), (3, (.ptr 1003 [])), (4, (.rs 1015)), (6, (.ptr 1006 [])), (16, (.val (.sl 141 (.agg (.pair (.int .i64) (.pair (.int .i64) (.pair (.int .i64) (.pair (.int .i64) (.pair (.int .i64) (.pair (.int .i64) (.pair (.int .i64) (.pair (.agg (.pair (.int .u16) .str)) (.agg (.pair (.int .i64) (.agg (.pair (.int .i64) (.pair (.int .i64) (.int .i64)))))))))))))))))), (17, (.val (.int .i64))), (18, (.val (.int .i64)))], [(1002, .box (.val (.agg (.pair (.arr 12 (.int .i64)) (.pair (.arr 7 (.int .i64)) (.pair (.arr 6 (.int .i64)) (.pair (.int .i64) (.int .i64)))))))), (1003, .box (.val (.agg (.pair (.arr 12 (.int .i64)) (.pair (.arr 7 (.int .i64)) (.pair (.arr 6 (.int .i64)) (.pair (.int .i64) (.int .i64)))))))), (1006, .box (.val (.agg (.pair (.int .i64) (.pair (.int .i64) (.pair (.int .i64) (.pair (.int .i64) (.pair (.int .i64) (.pair (.int .i64) (.pair (.int .i64) (.pair (.agg (.pair (.int .u16) .str)) (.agg (.pair (.int .i64) (.agg (.pair (.int .i64) (.pair (.int .i64) (.int .i64))))))))))))))))), (1015, .row 3 (.int .i64))]⟩), (29, ⟨130, 8, [(2, (.ptr 1002 [])), (3, (.ptr 1003 [])), (4, (.rs 1015)), (6, (.ptr 1006 [])), (16, (.val (.sl 141 (.agg (.pair (.int .i64) (.pair (.int .i64) (.pair (.int .i64) (.pair (.int .i64) (.pair (.int .i64) (.pair (.int .i64) (.pair (.int .i64) (.pair (.agg (.pair (.int .u16) .str)) (.agg (.pair (.int .i64) (.agg (.pair (.int .i64) (.pair (.int .i64) (.int .i64)))))))))))))))))), (17, (.val (.int .i64))), (18, (.val (.int .i64)))], [(1002, .box (.val (.agg (.pair (.arr 12 (.int .i64)) (.pair (.arr 7 (.int .i64)) (.pair (.arr 6 (.int .i64)) (.pair (.int .i64) (.int .i64)))))))), (1003, .box (.val (.agg (.pair (.arr 12 (.int .i64)) (.pair (.arr 7 (.int .i64)) (.pair (.arr 6 (.int .i64)) (.pair (.int .i64) (.int .i64)))))))), (1006, .box (.val (.agg (.pair (.int .i64) (.pair (.int .i64) (.pair (.int .i64) (.pair (.int .i64) (.pair (.int .i64) (.pair (.int .i64) (.pair (.int .i64) (.pair (.agg (.pair (.int .u16) .str)) (.agg (.pair (.int .i64) (.agg (.pair (.int .i64) (.pair (.int .i64) (.int .i64))))))))))))))))), (1015, .row 3 (.int .i64))]⟩), (34, ⟨130, 8, [(2, (.ptr 1002 [])), (3, (.ptr 1003 [])), (6, (.ptr 1006 [])), (8, (.rs 1095)), (16, (.val (.sl 141 (.agg (.pair (.int .i64) (.pair (.int .i64) (.pair (.int .i64) (.pair (.int .i64) (.pair (.int .i64) (.pair (.int .i64) (.pair (.int .i64) (.pair (.agg (.pair (.int .u16) .str)) (.agg (.pair (.int .i64) (.agg (.pair (.int .i64) (.pair (.int .i64) (.int .i64)))))))))))))))))), (17, (.val (.int .i64))), (18, (.val (.int .i64))), (96, (.rs 1015)), (97, (.val (.int .i64))), (98, (.val (.int .i64)))], [(1002, .box (.val (.agg (.pair (.arr 12 (.int .i64)) (.pair (.arr 7 (.int .i64)) (.pair (.arr 6 (.int .i64)) (.pair (.int .i64) (.int .i64)))))))), (1003, .box (.val (.agg (.pair (.arr 12 (.int .i64)) (.pair (.arr 7 (.int .i64)) (.pair (.arr 6 (.int .i64)) (.pair (.int .i64) (.int .i64)))))))), (1006, .box (.val (.agg (.pair (.int .i64) (.pair (.int .i64) (.pair (.int .i64) (.pair (.int .i64) (.pair (.int .i64) (.pair (.int .i64) (.pair (.int .i64) (.pair (.agg (.pair (.int .u16) .str)) (.agg (.pair (.int .i64) (.agg (.pair (.int .i64) (.pair (.int .i64) (.int .i64))))))))))))))))), (1015, .row 3 (.int .i64)), (1095, .row 3 (.int .i64))]⟩), (47, ⟨130, 8, [(2, (.ptr 1002 [])), (3, (.ptr 1003 [])), (4, (.rs 1015)), (6, (.ptr 1006 [])), (16, (.val (.sl 141 (.agg (.pair (.int .i64) (.pair (.int .i64) (.pair (.int .i64) (.pair (.int .i64) (.pair (.int .i64) (.pair (.int .i64) (.pair (.int .i64) (.pair (.agg (.pair (.int .u16) .str)) (.agg (.pair (.int .i64) (.agg (.pair (.int .i64) (.pair (.int .i64) (.int .i64)))))))))))))))))), (17, (.val (.int .i64))), (18, (.val (.int .i64)))], [(1002, .box (.val (.agg (.pair (.arr 12 (.int .i64)) (.pair (.arr 7 (.int .i64)) (.pair (.arr 6 (.int .i64)) (.pair (.int .i64) (.int .i64)))))))), (1003, .box (.val (.agg (.pair (.arr 12 (.int .i64)) (.pair (.arr 7 (.int .i64)) (.pair (.arr 6 (.int .i64)) (.pair (.int .i64) (.int .i64)))))))), (1006, .box (.val (.agg (.pair (.int .i64) (.pair (.int .i64) (.pair (.int .i64) (.pair (.int .i64) (.pair (.int .i64) (.pair (.int .i64) (.pair (.int .i64) (.pair (.agg (.pair (.int .u16) .str)) (.agg (.pair (.int .i64) (.agg (.pair (.int .i64) (.pair (.int .i64) (.int .i64))))))))))))))))), (1015, .row 3 (.int .i64))]⟩), (51, ⟨130, 8, [(2, (.ptr 1002 [])), (3, (.ptr 1003 [])), (4, (.rs 1015)), (16, (.val (.sl 141 (.agg (.pair (.int .i64) (.pair (.int .i64) (.pair (.int .i64) (.pair (.int .i64) (.pair (.int .i64) (.pair (.int .i64) (.pair (.int .i64) (.pair (.agg (.pair (.int .u16) .str)) (.agg (.pair (.int .i64) (.agg (.pair (.int .i64) (.pair (.int .i64) (.int .i64)))))))))))))))))), (17, (.val (.int .i64))), (18, (.val (.int .i64)))], [(1002, .box (.val (.agg (.pair (.arr 12 (.int .i64)) (.pair (.arr 7 (.int .i64)) (.pair (.arr 6 (.int .i64)) (.pair (.int .i64) (.int .i64)))))))), (1003, .box (.val (.agg (.pair (.arr 12 (.int .i64)) (.pair (.arr 7 (.int .i64)) (.pair (.arr 6 (.int .i64)) (.pair (.int .i64) (.int .i64)))))))), (1015, .row 3 (.int .i64))]⟩)]⟩
noncomputable def T18 (n : Nat) : List Entry := [e74 n]
noncomputable def e18 (n : Nat) : Entry := c18.entry Try.prog (T18 n) n
theorem ok18 (n : Nat) : FnOK Try.prog (e18 n) := c18.sound (.cons (ok74 n) .nil) n Try.func18 (by kernel_rfl) (by kernel_rfl)
noncomputable def f18 (n : Nat) (l : List (Int × (Int × (Int × (Int × (Int × (Int × (Int × ((Int × ByteArray) × (Int × (Int × (Int × Int)))))))))))) : Option ((List Int × (List Int × (List Int × (Int × Int))))) := c18.f Try.prog (T18 n) n l
noncomputable def f18_8 (n m : Nat) (x16 : List (Int × (Int × (Int × (Int × (Int × (Int × (Int × ((Int × ByteArray) × (Int × (Int × (Int × Int)))))))))))) (x17 : Int) (x18 : Int) (b1002 : (List Int × (List Int × (List Int × (Int × Int))))) (b1003 : (List Int × (List Int × (List Int × (Int × Int))))) (l1015 : List Int) : Option ((List Int × (List Int × (List Int × (Int × Int))))) := c18.LL Try.prog (T18 n) m 8 ((), (), (), x16, x17, x18) (b1002, b1003, l1015, ())
noncomputable def f18_19 (n m : Nat) (x16 : List (Int × (Int × (Int × (Int × (Int × (Int × (Int × ((Int × ByteArray) × (Int × (Int × (Int × Int)))))))))))) (x17 : Int) (x18 : Int) (b1002 : (List Int × (List Int × (List Int × (Int × Int))))) (b1003 : (List Int × (List Int × (List Int × (Int × Int))))) (b1006 : (Int × (Int × (Int × (Int × (Int × (Int × (Int × ((Int × ByteArray) × (Int × (Int × (Int × Int)))))))))))) (l1015 : List Int) : Option ((List Int × (List Int × (List Int × (Int × Int))))) := c18.LL Try.prog (T18 n) m 19 ((), (), (), (), x16, x17, x18) (b1002, b1003, b1006, l1015, ())
noncomputable def f18_23 (n m : Nat) (x16 : List (Int × (Int × (Int × (Int × (Int × (Int × (Int × ((Int × ByteArray) × (Int × (Int × (Int × Int)))))))))))) (x17 : Int) (x18 : Int) (b1002 : (List Int × (List Int × (List Int × (Int × Int))))) (b1003 : (List Int × (List Int × (List Int × (Int × Int))))) (b1006 : (Int × (Int × (Int × (Int × (Int × (Int × (Int × ((Int × ByteArray) × (Int × (Int × (Int × Int)))))))))))) (l1015 : List Int) : Option ((List Int × (List Int × (List Int × (Int × Int))))) := c18.LL Try.prog (T18 n) m 23 ((), (), (), (), x16, x17, x18) (b1002, b1003, b1006, l1015, ())
noncomputable def f18_29 (n m : Nat) (x16 : List (Int × (Int × (Int × (Int × (Int × (Int × (Int × ((Int × ByteArray) × (Int × (Int × (Int × Int)))))))))))) (x17 : Int) (x18 : Int) (b1002 : (List Int × (List Int × (List Int × (Int × Int))))) (b1003 : (List Int × (List Int × (List Int × (Int × Int))))) (b1006 : (Int × (Int × (Int × (Int × (Int × (Int × (Int × ((Int × ByteArray) × (Int × (Int × (Int × Int)))))))))))) (l1015 : List Int) : Option ((List Int × (List Int × (List Int × (Int × Int))))) := c18.LL Try.prog (T18 n) m 29 ((), (), (), (), x16, x17, x18) (b1002, b1003, b1006, l1015, ())
noncomputable def f18_34 (n m : Nat) (x16 : List (Int × (Int × (Int × (Int × (Int × (Int × (Int × ((Int × ByteArray) × (Int × (Int × (Int × Int)))))))))))) (x17 : Int) (x18 : Int) (x97 : Int) (x98 : Int) (b1002 : (List Int × (List Int × (List Int × (Int × Int))))) (b1003 : (List Int × (List Int × (List Int × (Int × Int))))) (b1006 : (Int × (Int × (Int × (Int × (Int × (Int × (Int × ((Int × ByteArray) × (Int × (Int × (Int × Int)))))))))))) (l1015 : List Int) (l1095 : List Int) : Option ((List Int × (List Int × (List Int × (Int × Int))))) := c18.LL Try.prog (T18 n) m 34 ((), (), (), (), x16, x17, x18, (), x97, x98) (b1002, b1003, b1006, l1015, l1095, ())
noncomputable def f18_47 (n m : Nat) (x16 : List (Int × (Int × (Int × (Int × (Int × (Int × (Int × ((Int × ByteArray) × (Int × (Int × (Int × Int)))))))))))) (x17 : Int) (x18 : Int) (b1002 : (List Int × (List Int × (List Int × (Int × Int))))) (b1003 : (List Int × (List Int × (List Int × (Int × Int))))) (b1006 : (Int × (Int × (Int × (Int × (Int × (Int × (Int × ((Int × ByteArray) × (Int × (Int × (Int × Int)))))))))))) (l1015 : List Int) : Option ((List Int × (List Int × (List Int × (Int × Int))))) := c18.LL Try.prog (T18 n) m 47 ((), (), (), (), x16, x17, x18) (b1002, b1003, b1006, l1015, ())
noncomputable def f18_51 (n m : Nat) (x16 : List (Int × (Int × (Int × (Int × (Int × (Int × (Int × ((Int × ByteArray) × (Int × (Int × (Int × Int)))))))))))) (x17 : Int) (x18 : Int) (b1002 : (List Int × (List Int × (List Int × (Int × Int))))) (b1003 : (List Int × (List Int × (List Int × (Int × Int))))) (l1015 : List Int) : Option ((List Int × (List Int × (List Int × (Int × Int))))) := c18.LL Try.prog (T18 n) m 51 ((), (), (), x16, x17, x18) (b1002, b1003, l1015, ())
theorem f18_8_zero (n : Nat) (x16 : List (Int × (Int × (Int × (Int × (Int × (Int × (Int × ((Int × ByteArray) × (Int × (Int × (Int × Int)))))))))))) (x17 : Int) (x18 : Int) (b1002 : (List Int × (List Int × (List Int × (Int × Int))))) (b1003 : (List Int × (List Int × (List Int × (Int × Int))))) (l1015 : List Int) : f18_8 n 0 x16 x17 x18 b1002 b1003 l1015 = none := rfl
theorem f18_8_eq (n m : Nat) (x16 : List (Int × (Int × (Int × (Int × (Int × (Int × (Int × ((Int × ByteArray) × (Int × (Int × (Int × Int)))))))))))) (x17 : Int) (x18 : Int) (b1002 : (List Int × (List Int × (List Int × (Int × Int))))) (b1003 : (List Int × (List Int × (List Int × (Int × Int))))) (l1015 : List Int) : f18_8 n (m + 1) x16 x17 x18 b1002 b1003 l1015 =
  bif decide (x18 < x17) then
   bif decide ((0 : Int) ≤ x18 ∧ x18 < ↑x16.length) then
    bif decide ((x16.getD x18.toNat ((0 : Int), (0 : Int), (0 : Int), (0 : Int), (0 : Int), (0 : Int), (0 : Int), ((0 : Int), ByteArray.empty), (0 : Int), (0 : Int), (0 : Int), (0 : Int))).snd.fst ≥ (1 : Int)) then
     bif decide ((x16.getD x18.toNat ((0 : Int), (0 : Int), (0 : Int), (0 : Int), (0 : Int), (0 : Int), (0 : Int), ((0 : Int), ByteArray.empty), (0 : Int), (0 : Int), (0 : Int), (0 : Int))).snd.fst ≤ (11 : Int)) then
      bif decide ((0 : Int) ≤ (x16.getD x18.toNat ((0 : Int), (0 : Int), (0 : Int), (0 : Int), (0 : Int), (0 : Int), (0 : Int), ((0 : Int), ByteArray.empty), (0 : Int), (0 : Int), (0 : Int), (0 : Int))).snd.fst ∧ (x16.getD x18.toNat ((0 : Int), (0 : Int), (0 : Int), (0 : Int), (0 : Int), (0 : Int), (0 : Int), ((0 : Int), ByteArray.empty), (0 : Int), (0 : Int), (0 : Int), (0 : Int))).snd.fst < ↑(12 : Nat)) then
       bif decide ((0 : Int) ≤ (x16.getD x18.toNat ((0 : Int), (0 : Int), (0 : Int), (0 : Int), (0 : Int), (0 : Int), (0 : Int), ((0 : Int), ByteArray.empty), (0 : Int), (0 : Int), (0 : Int), (0 : Int))).snd.fst ∧ (x16.getD x18.toNat ((0 : Int), (0 : Int), (0 : Int), (0 : Int), (0 : Int), (0 : Int), (0 : Int), ((0 : Int), ByteArray.empty), (0 : Int), (0 : Int), (0 : Int), (0 : Int))).snd.fst < ↑(12 : Nat)) then
        f18_19 n m x16 x17 x18 b1002 ((List.set b1003.fst (Int.toNat (x16.getD x18.toNat ((0 : Int), (0 : Int), (0 : Int), (0 : Int), (0 : Int), (0 : Int), (0 : Int), ((0 : Int), ByteArray.empty), (0 : Int), (0 : Int), (0 : Int), (0 : Int))).snd.fst) (Go.IntKind.i64.wrap (List.getD b1003.fst (Int.toNat (x16.getD x18.toNat ((0 : Int), (0 : Int), (0 : Int), (0 : Int), (0 : Int), (0 : Int), (0 : Int), ((0 : Int), ByteArray.empty), (0 : Int), (0 : Int), (0 : Int), (0 : Int))).snd.fst) (0 : Int) + (1 : Int))), b1003.snd)) (x16.getD x18.toNat ((0 : Int), (0 : Int), (0 : Int), (0 : Int), (0 : Int), (0 : Int), (0 : Int), ((0 : Int), ByteArray.empty), (0 : Int), (0 : Int), (0 : Int), (0 : Int))) l1015
       else
        none
      else
       none
     else
      f18_19 n m x16 x17 x18 b1002 ((List.set b1003.fst (0 : Nat) (Go.IntKind.i64.wrap (List.getD b1003.fst (0 : Nat) (0 : Int) + (1 : Int))), b1003.snd)) (x16.getD x18.toNat ((0 : Int), (0 : Int), (0 : Int), (0 : Int), (0 : Int), (0 : Int), (0 : Int), ((0 : Int), ByteArray.empty), (0 : Int), (0 : Int), (0 : Int), (0 : Int))) l1015
    else
     f18_19 n m x16 x17 x18 b1002 ((List.set b1003.fst (0 : Nat) (Go.IntKind.i64.wrap (List.getD b1003.fst (0 : Nat) (0 : Int) + (1 : Int))), b1003.snd)) (x16.getD x18.toNat ((0 : Int), (0 : Int), (0 : Int), (0 : Int), (0 : Int), (0 : Int), (0 : Int), ((0 : Int), ByteArray.empty), (0 : Int), (0 : Int), (0 : Int), (0 : Int))) l1015
   else
    none
  else
   some b1003 := by kernel_rfl
theorem f18_19_zero (n : Nat) (x16 : List (Int × (Int × (Int × (Int × (Int × (Int × (Int × ((Int × ByteArray) × (Int × (Int × (Int × Int)))))))))))) (x17 : Int) (x18 : Int) (b1002 : (List Int × (List Int × (List Int × (Int × Int))))) (b1003 : (List Int × (List Int × (List Int × (Int × Int))))) (b1006 : (Int × (Int × (Int × (Int × (Int × (Int × (Int × ((Int × ByteArray) × (Int × (Int × (Int × Int)))))))))))) (l1015 : List Int) : f18_19 n 0 x16 x17 x18 b1002 b1003 b1006 l1015 = none := rfl
theorem f18_19_eq (n m : Nat) (x16 : List (Int × (Int × (Int × (Int × (Int × (Int × (Int × ((Int × ByteArray) × (Int × (Int × (Int × Int)))))))))))) (x17 : Int) (x18 : Int) (b1002 : (List Int × (List Int × (List Int × (Int × Int))))) (b1003 : (List Int × (List Int × (List Int × (Int × Int))))) (b1006 : (Int × (Int × (Int × (Int × (Int × (Int × (Int × ((Int × ByteArray) × (Int × (Int × (Int × Int)))))))))))) (l1015 : List Int) : f18_19 n (m + 1) x16 x17 x18 b1002 b1003 b1006 l1015 =
  bif b1006.snd.fst == (1 : Int) then
   bif decide (b1006.snd.snd.snd.snd.snd.snd.fst ≥ (0 : Int)) then
    bif decide (b1006.snd.snd.snd.snd.snd.snd.fst ≤ (6 : Int)) then
     bif decide ((0 : Int) ≤ b1006.snd.snd.snd.snd.snd.snd.fst ∧ b1006.snd.snd.snd.snd.snd.snd.fst < ↑(7 : Nat)) then
      bif decide ((0 : Int) ≤ b1006.snd.snd.snd.snd.snd.snd.fst ∧ b1006.snd.snd.snd.snd.snd.snd.fst < ↑(7 : Nat)) then
       f18_23 n m x16 x17 x18 b1002 ((b1003.fst, List.set b1003.snd.fst (Int.toNat b1006.snd.snd.snd.snd.snd.snd.fst) (Go.IntKind.i64.wrap (List.getD b1003.snd.fst (Int.toNat b1006.snd.snd.snd.snd.snd.snd.fst) (0 : Int) + (1 : Int))), b1003.snd.snd)) b1006 l1015
      else
       none
     else
      none
    else
     f18_23 n m x16 x17 x18 b1002 b1003 b1006 l1015
   else
    f18_23 n m x16 x17 x18 b1002 b1003 b1006 l1015
  else
   f18_23 n m x16 x17 x18 b1002 b1003 b1006 l1015 := by kernel_rfl
theorem f18_23_zero (n : Nat) (x16 : List (Int × (Int × (Int × (Int × (Int × (Int × (Int × ((Int × ByteArray) × (Int × (Int × (Int × Int)))))))))))) (x17 : Int) (x18 : Int) (b1002 : (List Int × (List Int × (List Int × (Int × Int))))) (b1003 : (List Int × (List Int × (List Int × (Int × Int))))) (b1006 : (Int × (Int × (Int × (Int × (Int × (Int × (Int × ((Int × ByteArray) × (Int × (Int × (Int × Int)))))))))))) (l1015 : List Int) : f18_23 n 0 x16 x17 x18 b1002 b1003 b1006 l1015 = none := rfl
theorem f18_23_eq (n m : Nat) (x16 : List (Int × (Int × (Int × (Int × (Int × (Int × (Int × ((Int × ByteArray) × (Int × (Int × (Int × Int)))))))))))) (x17 : Int) (x18 : Int) (b1002 : (List Int × (List Int × (List Int × (Int × Int))))) (b1003 : (List Int × (List Int × (List Int × (Int × Int))))) (b1006 : (Int × (Int × (Int × (Int × (Int × (Int × (Int × ((Int × ByteArray) × (Int × (Int × (Int × Int)))))))))))) (l1015 : List Int) : f18_23 n (m + 1) x16 x17 x18 b1002 b1003 b1006 l1015 =
  bif b1006.snd.fst == (5 : Int) then
   bif decide (b1006.snd.snd.snd.snd.snd.snd.snd.snd.snd.fst ≥ (0 : Int)) then
    bif decide (b1006.snd.snd.snd.snd.snd.snd.snd.snd.snd.fst ≤ (5 : Int)) then
     bif decide ((0 : Int) ≤ b1006.snd.snd.snd.snd.snd.snd.snd.snd.snd.fst ∧ b1006.snd.snd.snd.snd.snd.snd.snd.snd.snd.fst < ↑(6 : Nat)) then
      bif decide ((0 : Int) ≤ b1006.snd.snd.snd.snd.snd.snd.snd.snd.snd.fst ∧ b1006.snd.snd.snd.snd.snd.snd.snd.snd.snd.fst < ↑(6 : Nat)) then
       f18_29 n m x16 x17 x18 b1002 ((b1003.fst, b1003.snd.fst, List.set b1003.snd.snd.fst (Int.toNat b1006.snd.snd.snd.snd.snd.snd.snd.snd.snd.fst) (Go.IntKind.i64.wrap (List.getD b1003.snd.snd.fst (Int.toNat b1006.snd.snd.snd.snd.snd.snd.snd.snd.snd.fst) (0 : Int) + (1 : Int))), b1003.snd.snd.snd)) b1006 l1015
      else
       none
     else
      none
    else
     f18_29 n m x16 x17 x18 b1002 b1003 b1006 l1015
   else
    f18_29 n m x16 x17 x18 b1002 b1003 b1006 l1015
  else
   f18_29 n m x16 x17 x18 b1002 b1003 b1006 l1015 := by kernel_rfl
theorem f18_29_zero (n : Nat) (x16 : List (Int × (Int × (Int × (Int × (Int × (Int × (Int × ((Int × ByteArray) × (Int × (Int × (Int × Int)))))))))))) (x17 : Int) (x18 : Int) (b1002 : (List Int × (List Int × (List Int × (Int × Int))))) (b1003 : (List Int × (List Int × (List Int × (Int × Int))))) (b1006 : (Int × (Int × (Int × (Int × (Int × (Int × (Int × ((Int × ByteArray) × (Int × (Int × (Int × Int)))))))))))) (l1015 : List Int) : f18_29 n 0 x16 x17 x18 b1002 b1003 b1006 l1015 = none := rfl
theorem f18_29_eq (n m : Nat) (x16 : List (Int × (Int × (Int × (Int × (Int × (Int × (Int × ((Int × ByteArray) × (Int × (Int × (Int × Int)))))))))))) (x17 : Int) (x18 : Int) (b1002 : (List Int × (List Int × (List Int × (Int × Int))))) (b1003 : (List Int × (List Int × (List Int × (Int × Int))))) (b1006 : (Int × (Int × (Int × (Int × (Int × (Int × (Int × ((Int × ByteArray) × (Int × (Int × (Int × Int)))))))))))) (l1015 : List Int) : f18_29 n (m + 1) x16 x17 x18 b1002 b1003 b1006 l1015 =
  bif b1006.snd.fst == (2 : Int) then
   f18_34 n m x16 x17 x18 ↑l1015.length (0 : Int) b1002 b1003 b1006 l1015 []
  else
   bif b1006.snd.fst == (5 : Int) then
    f18_34 n m x16 x17 x18 ↑l1015.length (0 : Int) b1002 b1003 b1006 l1015 []
   else
    f18_47 n m x16 x17 x18 b1002 b1003 b1006 l1015 := by kernel_rfl
theorem f18_34_zero (n : Nat) (x16 : List (Int × (Int × (Int × (Int × (Int × (Int × (Int × ((Int × ByteArray) × (Int × (Int × (Int × Int)))))))))))) (x17 : Int) (x18 : Int) (x97 : Int) (x98 : Int) (b1002 : (List Int × (List Int × (List Int × (Int × Int))))) (b1003 : (List Int × (List Int × (List Int × (Int × Int))))) (b1006 : (Int × (Int × (Int × (Int × (Int × (Int × (Int × ((Int × ByteArray) × (Int × (Int × (Int × Int)))))))))))) (l1015 : List Int) (l1095 : List Int) : f18_34 n 0 x16 x17 x18 x97 x98 b1002 b1003 b1006 l1015 l1095 = none := rfl
theorem f18_34_eq (n m : Nat) (x16 : List (Int × (Int × (Int × (Int × (Int × (Int × (Int × ((Int × ByteArray) × (Int × (Int × (Int × Int)))))))))))) (x17 : Int) (x18 : Int) (x97 : Int) (x98 : Int) (b1002 : (List Int × (List Int × (List Int × (Int × Int))))) (b1003 : (List Int × (List Int × (List Int × (Int × Int))))) (b1006 : (Int × (Int × (Int × (Int × (Int × (Int × (Int × ((Int × ByteArray) × (Int × (Int × (Int × Int)))))))))))) (l1015 : List Int) (l1095 : List Int) : f18_34 n (m + 1) x16 x17 x18 x97 x98 b1002 b1003 b1006 l1015 l1095 =
  bif decide (x98 < x97) then
   bif decide ((0 : Int) ≤ x98 ∧ x98 < ↑l1015.length) then
    bif l1015.getD x98.toNat (0 : Int) != b1006.snd.snd.snd.snd.fst then
     bif decide ((l1095.length + [l1015.getD x98.toNat (0 : Int)].length) * (8 : Nat) ≤ Go.Rf.maxBytes) then
      f18_34 n m x16 x17 x18 x97 (Go.IntKind.i64.wrap (x98 + (1 : Int))) b1002 b1003 b1006 l1015 (l1095 ++ [l1015.getD x98.toNat (0 : Int)])
     else
      none
    else
     f18_34 n m x16 x17 x18 x97 (Go.IntKind.i64.wrap (x98 + (1 : Int))) b1002 b1003 b1006 l1015 l1095
   else
    none
  else
   f18_47 n m x16 x17 x18 b1002 b1003 b1006 l1095 := by kernel_rfl
theorem f18_47_zero (n : Nat) (x16 : List (Int × (Int × (Int × (Int × (Int × (Int × (Int × ((Int × ByteArray) × (Int × (Int × (Int × Int)))))))))))) (x17 : Int) (x18 : Int) (b1002 : (List Int × (List Int × (List Int × (Int × Int))))) (b1003 : (List Int × (List Int × (List Int × (Int × Int))))) (b1006 : (Int × (Int × (Int × (Int × (Int × (Int × (Int × ((Int × ByteArray) × (Int × (Int × (Int × Int)))))))))))) (l1015 : List Int) : f18_47 n 0 x16 x17 x18 b1002 b1003 b1006 l1015 = none := rfl
theorem f18_47_eq (n m : Nat) (x16 : List (Int × (Int × (Int × (Int × (Int × (Int × (Int × ((Int × ByteArray) × (Int × (Int × (Int × Int)))))))))))) (x17 : Int) (x18 : Int) (b1002 : (List Int × (List Int × (List Int × (Int × Int))))) (b1003 : (List Int × (List Int × (List Int × (Int × Int))))) (b1006 : (Int × (Int × (Int × (Int × (Int × (Int × (Int × ((Int × ByteArray) × (Int × (Int × (Int × Int)))))))))))) (l1015 : List Int) : f18_47 n (m + 1) x16 x17 x18 b1002 b1003 b1006 l1015 =
  bif b1006.snd.fst == (2 : Int) then
   bif decide ((l1015.length + [b1006.snd.snd.snd.snd.fst].length) * (8 : Nat) ≤ Go.Rf.maxBytes) then
    f18_51 n m x16 x17 x18 b1002 b1003 (l1015 ++ [b1006.snd.snd.snd.snd.fst])
   else
    none
  else
   f18_51 n m x16 x17 x18 b1002 b1003 l1015 := by kernel_rfl
theorem f18_51_zero (n : Nat) (x16 : List (Int × (Int × (Int × (Int × (Int × (Int × (Int × ((Int × ByteArray) × (Int × (Int × (Int × Int)))))))))))) (x17 : Int) (x18 : Int) (b1002 : (List Int × (List Int × (List Int × (Int × Int))))) (b1003 : (List Int × (List Int × (List Int × (Int × Int))))) (l1015 : List Int) : f18_51 n 0 x16 x17 x18 b1002 b1003 l1015 = none := rfl
theorem f18_51_eq (n m : Nat) (x16 : List (Int × (Int × (Int × (Int × (Int × (Int × (Int × ((Int × ByteArray) × (Int × (Int × (Int × Int)))))))))))) (x17 : Int) (x18 : Int) (b1002 : (List Int × (List Int × (List Int × (Int × Int))))) (b1003 : (List Int × (List Int × (List Int × (Int × Int))))) (l1015 : List Int) : f18_51 n (m + 1) x16 x17 x18 b1002 b1003 l1015 =
  bif decide (↑l1015.length > b1003.snd.snd.snd.snd) then
   f18_8 n m x16 x17 (Go.IntKind.i64.wrap (x18 + (1 : Int))) b1002 (b1003.fst, b1003.snd.fst, b1003.snd.snd.fst, b1003.snd.snd.snd.fst, ↑l1015.length) l1015
  else
   f18_8 n m x16 x17 (Go.IntKind.i64.wrap (x18 + (1 : Int))) b1002 b1003 l1015 := by kernel_rfl
theorem f18_eq (n : Nat) (l : List (Int × (Int × (Int × (Int × (Int × (Int × (Int × ((Int × ByteArray) × (Int × (Int × (Int × Int)))))))))))) : f18 n l =
  (f74 n l).bind fun r1 =>
  f18_8 n n l ↑l.length (0 : Int) (([(0 : Int), (0 : Int), (0 : Int), (0 : Int), (0 : Int), (0 : Int), (0 : Int), (0 : Int), (0 : Int), (0 : Int), (0 : Int), (0 : Int)], [(0 : Int), (0 : Int), (0 : Int), (0 : Int), (0 : Int), (0 : Int), (0 : Int)], [(0 : Int), (0 : Int), (0 : Int), (0 : Int), (0 : Int), (0 : Int)], (0 : Int), (0 : Int))) (([(0 : Int), (0 : Int), (0 : Int), (0 : Int), (0 : Int), (0 : Int), (0 : Int), (0 : Int), (0 : Int), (0 : Int), (0 : Int), (0 : Int)], [(0 : Int), (0 : Int), (0 : Int), (0 : Int), (0 : Int), (0 : Int), (0 : Int)], [(0 : Int), (0 : Int), (0 : Int), (0 : Int), (0 : Int), (0 : Int)], ↑(List.length r1), (0 : Int))) [] := by kernel_rfl
/- convoy/convoylaw26.TallyCounts -/
noncomputable def c3 : Cfg := ⟨3, Try.f3, [(.sl 132 (.agg (.pair (.int .i64) (.pair (.int .i64) (.pair (.int .i64) (.pair (.int .i64) (.pair (.int .i64) (.pair (.int .i64) (.pair (.int .i64) (.pair (.agg (.pair (.int .u16) .str)) (.agg (.pair (.int .i64) (.agg (.pair (.int .i64) (.pair (.int .i64) (.int .i64)))))))))))))))), (.sl 132 (.agg (.pair (.int .i64) (.pair (.int .i64) (.pair (.int .i64) (.pair (.int .i64) (.pair (.int .i64) (.pair (.int .i64) (.pair (.int .i64) (.pair (.agg (.pair (.int .u16) .str)) (.agg (.pair (.int .i64) (.agg (.pair (.int .i64) (.pair (.int .i64) (.int .i64))))))))))))))))], [.bool], 7, [], [(16, ⟨114, 7, [(7, (.ptr 1007 [])), (8, (.ptr 1008 [])), (9, (.ptr 1009 [])), (42, (.val (.int .i64)))], [(1007, .box (.val (.agg (.pair (.arr 12 (.int .i64)) (.pair (.arr 7 (.int .i64)) (.pair (.arr 6 (.int .i64)) (.pair (.int .i64) (.int .i64)))))))), (1008, .box (.val (.agg (.pair (.arr 12 (.int .i64)) (.pair (.arr 7 (.int .i64)) (.pair (.arr 6 (.int .i64)) (.pair (.int .i64) (.int .i64)))))))), (1009, .box (.val (.agg (.pair (.arr 12 (.int .i64)) (.pair (.arr 7 (.int .i64)) (.pair (.arr 6 (.int .i64)) (.pair (.int .i64) (.int .i64))))))))]⟩), (28, ⟨114, 7, [(7, (.ptr 1007 [])), (8, (.ptr 1008 [])), (9, (.ptr 1009 [])), (60, (.val (.int .i64)))], [(1007, .box (.val (.agg (.pair (.arr 12 (.int .i64)) (.pair (.arr 7 (.int .i64)) (.pair (.arr 6 (.int .i64)) (.pair (.int .i64) (.int .i64)))))))), (1008, .box (.val (.agg (.pair (.arr 12 (.int .i64)) (.pair (.arr 7 (.int .i64)) (.pair (.arr 6 (.int .i64)) (.pair (.int .i64) (.int .i64)))))))), (1009, .box (.val (.agg (.pair (.arr 12 (.int .i64)) (.pair (.arr 7 (.int .i64)) (.pair (.arr 6 (.int .i64)) (.pair (.int .i64) (.int .i64))))))))]⟩), (40, ⟨114, 7, [(7, (.ptr 1007 [])), (8, (.ptr 1008 [])), (9, (.ptr 1009 [])), (78, (.val (.int .i64)))], [(1007, .box (.val (.agg (.pair (.arr 12 (.int .i64)) (.pair (.arr 7 (.int .i64)) (.pair (.arr 6 (.int .i64)) (.pair (.int .i64) (.int .i64)))))))), (1008, .box (.val (.agg (.pair (.arr 12 (.int .i64)) (.pair (.arr 7 (.int .i64)) (.pair (.arr 6 (.int .i64)) (.pair (.int .i64) (.int .i64)))))))), (1009, .box (.val (.agg (.pair (.arr 12 (.int .i64)) (.pair (.arr 7 (.int .i64)) (.pair (.arr 6 (.int .i64)) (.pair (.int .i64) (.int .i64))))))))]⟩)]⟩
noncomputable def T3 (n : Nat) : List Entry := [e16 n, e17 n, e19 n, e18 n, e20 n, e21 n]
noncomputable def e3 (n : Nat) : Entry := c3.entry Try.prog (T3 n) n
theorem ok3 (n : Nat) : FnOK Try.prog (e3 n) := c3.sound (.cons (ok16 n) (.cons (ok17 n) (.cons (ok19 n) (.cons (ok18 n) (.cons (ok20 n) (.cons (ok21 n) .nil)))))) n Try.func3 (by kernel_rfl) (by kernel_rfl)
noncomputable def f3 (n : Nat) (l : List (Int × (Int × (Int × (Int × (Int × (Int × (Int × ((Int × ByteArray) × (Int × (Int × (Int × Int)))))))))))) (k : List (Int × (Int × (Int × (Int × (Int × (Int × (Int × ((Int × ByteArray) × (Int × (Int × (Int × Int)))))))))))) : Option (Bool) := c3.f Try.prog (T3 n) n (l, k)
noncomputable def f3_16 (n m : Nat) (x42 : Int) (b1007 : (List Int × (List Int × (List Int × (Int × Int))))) (b1008 : (List Int × (List Int × (List Int × (Int × Int))))) (b1009 : (List Int × (List Int × (List Int × (Int × Int))))) : Option (Bool) := c3.LL Try.prog (T3 n) m 16 ((), (), (), x42) (b1007, b1008, b1009, ())
noncomputable def f3_28 (n m : Nat) (x60 : Int) (b1007 : (List Int × (List Int × (List Int × (Int × Int))))) (b1008 : (List Int × (List Int × (List Int × (Int × Int))))) (b1009 : (List Int × (List Int × (List Int × (Int × Int))))) : Option (Bool) := c3.LL Try.prog (T3 n) m 28 ((), (), (), x60) (b1007, b1008, b1009, ())
noncomputable def f3_40 (n m : Nat) (x78 : Int) (b1007 : (List Int × (List Int × (List Int × (Int × Int))))) (b1008 : (List Int × (List Int × (List Int × (Int × Int))))) (b1009 : (List Int × (List Int × (List Int × (Int × Int))))) : Option (Bool) := c3.LL Try.prog (T3 n) m 40 ((), (), (), x78) (b1007, b1008, b1009, ())
theorem f3_16_zero (n : Nat) (x42 : Int) (b1007 : (List Int × (List Int × (List Int × (Int × Int))))) (b1008 : (List Int × (List Int × (List Int × (Int × Int))))) (b1009 : (List Int × (List Int × (List Int × (Int × Int))))) : f3_16 n 0 x42 b1007 b1008 b1009 = none := rfl
theorem f3_16_eq (n m : Nat) (x42 : Int) (b1007 : (List Int × (List Int × (List Int × (Int × Int))))) (b1008 : (List Int × (List Int × (List Int × (Int × Int))))) (b1009 : (List Int × (List Int × (List Int × (Int × Int))))) : f3_16 n (m + 1) x42 b1007 b1008 b1009 =
  bif decide (x42 < (12 : Int)) then
   bif decide ((0 : Int) ≤ x42 ∧ x42 < ↑(12 : Nat)) then
    bif decide ((0 : Int) ≤ x42 ∧ x42 < ↑(12 : Nat)) then
     bif decide ((0 : Int) ≤ x42 ∧ x42 < ↑(12 : Nat)) then
      bif List.getD b1009.fst x42.toNat (0 : Int) != Go.IntKind.i64.wrap (List.getD b1007.fst x42.toNat (0 : Int) + List.getD b1008.fst x42.toNat (0 : Int)) then
       some false
      else
       f3_16 n m (Go.IntKind.i64.wrap (x42 + (1 : Int))) b1007 b1008 b1009
     else
      none
    else
     none
   else
    none
  else
   f3_28 n m (0 : Int) b1007 b1008 b1009 := by kernel_rfl
theorem f3_28_zero (n : Nat) (x60 : Int) (b1007 : (List Int × (List Int × (List Int × (Int × Int))))) (b1008 : (List Int × (List Int × (List Int × (Int × Int))))) (b1009 : (List Int × (List Int × (List Int × (Int × Int))))) : f3_28 n 0 x60 b1007 b1008 b1009 = none := rfl
theorem f3_28_eq (n m : Nat) (x60 : Int) (b1007 : (List Int × (List Int × (List Int × (Int × Int))))) (b1008 : (List Int × (List Int × (List Int × (Int × Int))))) (b1009 : (List Int × (List Int × (List Int × (Int × Int))))) : f3_28 n (m + 1) x60 b1007 b1008 b1009 =
  bif decide (x60 < (7 : Int)) then
   bif decide ((0 : Int) ≤ x60 ∧ x60 < ↑(7 : Nat)) then
    bif decide ((0 : Int) ≤ x60 ∧ x60 < ↑(7 : Nat)) then
     bif decide ((0 : Int) ≤ x60 ∧ x60 < ↑(7 : Nat)) then
      bif List.getD b1009.snd.fst x60.toNat (0 : Int) != Go.IntKind.i64.wrap (List.getD b1007.snd.fst x60.toNat (0 : Int) + List.getD b1008.snd.fst x60.toNat (0 : Int)) then
       some false
      else
       f3_28 n m (Go.IntKind.i64.wrap (x60 + (1 : Int))) b1007 b1008 b1009
     else
      none
    else
     none
   else
    none
  else
   f3_40 n m (0 : Int) b1007 b1008 b1009 := by kernel_rfl
theorem f3_40_zero (n : Nat) (x78 : Int) (b1007 : (List Int × (List Int × (List Int × (Int × Int))))) (b1008 : (List Int × (List Int × (List Int × (Int × Int))))) (b1009 : (List Int × (List Int × (List Int × (Int × Int))))) : f3_40 n 0 x78 b1007 b1008 b1009 = none := rfl
theorem f3_40_eq (n m : Nat) (x78 : Int) (b1007 : (List Int × (List Int × (List Int × (Int × Int))))) (b1008 : (List Int × (List Int × (List Int × (Int × Int))))) (b1009 : (List Int × (List Int × (List Int × (Int × Int))))) : f3_40 n (m + 1) x78 b1007 b1008 b1009 =
  bif decide (x78 < (6 : Int)) then
   bif decide ((0 : Int) ≤ x78 ∧ x78 < ↑(6 : Nat)) then
    bif decide ((0 : Int) ≤ x78 ∧ x78 < ↑(6 : Nat)) then
     bif decide ((0 : Int) ≤ x78 ∧ x78 < ↑(6 : Nat)) then
      bif List.getD b1009.snd.snd.fst x78.toNat (0 : Int) != Go.IntKind.i64.wrap (List.getD b1007.snd.snd.fst x78.toNat (0 : Int) + List.getD b1008.snd.snd.fst x78.toNat (0 : Int)) then
       some false
      else
       f3_40 n m (Go.IntKind.i64.wrap (x78 + (1 : Int))) b1007 b1008 b1009
     else
      none
    else
     none
   else
    none
  else
   bif b1009.snd.snd.snd.fst == if b1008.snd.snd.snd.fst > b1007.snd.snd.snd.fst then b1008.snd.snd.snd.fst else b1007.snd.snd.snd.fst then
    some (b1009.snd.snd.snd.snd == if b1008.snd.snd.snd.snd > b1007.snd.snd.snd.snd then b1008.snd.snd.snd.snd else b1007.snd.snd.snd.snd)
   else
    some false := by kernel_rfl
theorem f3_eq (n : Nat) (l : List (Int × (Int × (Int × (Int × (Int × (Int × (Int × ((Int × ByteArray) × (Int × (Int × (Int × Int)))))))))))) (k : List (Int × (Int × (Int × (Int × (Int × (Int × (Int × ((Int × ByteArray) × (Int × (Int × (Int × Int)))))))))))) : f3 n l k =
  (f16 n l).bind fun r1 =>
  (f16 n k).bind fun r2 =>
  (f17 n r1).bind fun r3 =>
  (f17 n r2).bind fun r4 =>
  (f19 n r1).bind fun r5 =>
  (f18 n r5).bind fun r6 =>
  (f19 n r2).bind fun r7 =>
  (f18 n r7).bind fun r8 =>
  (f20 n).bind fun r9 =>
  bif !r9 then
   some false
  else
   bif !(Go.Rf.eqL (Go.Rf.eqD (Go.Rf.Ty.int Go.IntKind.i64)) r3.1 r6.1 && (Go.Rf.eqL (Go.Rf.eqD (Go.Rf.Ty.int Go.IntKind.i64)) r3.snd.1 r6.snd.1 && (Go.Rf.eqL (Go.Rf.eqD (Go.Rf.Ty.int Go.IntKind.i64)) r3.snd.snd.1 r6.snd.snd.1 && (r3.snd.snd.snd.fst == r6.snd.snd.snd.fst && r3.snd.snd.snd.snd == r6.snd.snd.snd.snd)))) then
    some false
   else
    bif !(Go.Rf.eqL (Go.Rf.eqD (Go.Rf.Ty.int Go.IntKind.i64)) r4.1 r8.1 && (Go.Rf.eqL (Go.Rf.eqD (Go.Rf.Ty.int Go.IntKind.i64)) r4.snd.1 r8.snd.1 && (Go.Rf.eqL (Go.Rf.eqD (Go.Rf.Ty.int Go.IntKind.i64)) r4.snd.snd.1 r8.snd.snd.1 && (r4.snd.snd.snd.fst == r8.snd.snd.snd.fst && r4.snd.snd.snd.snd == r8.snd.snd.snd.snd)))) then
     some false
    else
     (f21 n (r3.1, r3.snd.1, r3.snd.snd.1, r3.snd.snd.snd) (r4.1, r4.snd.1, r4.snd.snd.1, r4.snd.snd.snd)).bind fun r10 =>
     f3_16 n n (0 : Int) r6 r8 r10 := by kernel_rfl
end Go.Proofs.Ytnlnfmakcnadlaa
