/- client.Text: printed, and checked by the kernel. -/
import Derived.Test.YthpcpofcadpijaaDoorGa
import Derived.Test.YthpcpofcadpijaaDoorGw
namespace Go.Proofs.YthpcpofcadpijaaDoor
open Go.Rf
noncomputable def s24x0 : ByteArray := { data := #[10] }
/- convoy/client.Text -/
noncomputable def c24 : Cfg := ⟨24, Tryd.f24, [(.sl 29 (.agg (.pair (.int .i64) (.pair (.agg (.pair (.int .u16) .str)) (.pair (.int .i64) (.int .i64))))))], [.str, (.int .i64), (.int .i64)], 6, [], [(12, ⟨37, 6, [(7, (.ptr 1007 [])), (19, (.val (.sl 29 (.agg (.pair (.int .i64) (.pair (.agg (.pair (.int .u16) .str)) (.pair (.int .i64) (.int .i64)))))))), (20, (.val (.int .i64))), (21, (.val (.int .i64)))], [(1007, .box (.agg (.pair .nilp (.pair (.rs 501007) (.val (.arr 0 (.fn 103))))))), (501007, .row 5 (.int .u8))]⟩), (1000012, ⟨37, 6, [(7, (.ptr 1007 [])), (19, (.val (.sl 29 (.agg (.pair (.int .i64) (.pair (.agg (.pair (.int .u16) .str)) (.pair (.int .i64) (.int .i64)))))))), (20, (.val (.int .i64))), (21, (.val (.int .i64)))], [(1007, .box (.agg (.pair (.ptr 1007 []) (.pair (.rs 501007) (.val (.arr 0 (.fn 103))))))), (501007, .row 5 (.int .u8))]⟩)]⟩
noncomputable def T24 (n : Nat) : Tab := ⟨[e23 n, e40 n, e42 n], [e41z n, e41u n, e43z n, e43u n]⟩
noncomputable def e24 (n : Nat) : Entry := c24.entry Tryd.prog (T24 n) n
theorem ok24 {W0 : World} (n : Nat) : FnOK Tryd.prog W0 (e24 n) := c24.sound (.cons (ok23 n) (.cons (ok40 n) (.cons (ok42 n) (.ocons (ok41z n) (.ocons (ok41u n) (.ocons (ok43z n) (.ocons (ok43u n) .nil))))))) n Tryd.func24 (by kernel_rfl) (by kernel_rfl)
noncomputable def f24 (n : Nat) (l : List (Int × ((Int × ByteArray) × (Int × Int)))) : Option (ByteArray × Int × Int) := c24.f Tryd.prog (T24 n) n l
noncomputable def f24_12 (n m : Nat) (x19 : List (Int × ((Int × ByteArray) × (Int × Int)))) (x20 : Int) (x21 : Int) (b1007bb : List Unit) (l501007 : List Int) : Option (ByteArray × Int × Int) := c24.LL Tryd.prog (T24 n) m 12 ((), x19, x20, x21) (((), ((), b1007bb)), l501007, ())
noncomputable def f24_1000012 (n m : Nat) (x19 : List (Int × ((Int × ByteArray) × (Int × Int)))) (x20 : Int) (x21 : Int) (b1007bb : List Unit) (l501007 : List Int) : Option (ByteArray × Int × Int) := c24.LL Tryd.prog (T24 n) m 1000012 ((), x19, x20, x21) (((), ((), b1007bb)), l501007, ())
theorem f24_12_zero (n : Nat) (x19 : List (Int × ((Int × ByteArray) × (Int × Int)))) (x20 : Int) (x21 : Int) (b1007bb : List Unit) (l501007 : List Int) : f24_12 n 0 x19 x20 x21 b1007bb l501007 = none := rfl
theorem f24_12_eq (n m : Nat) (x19 : List (Int × ((Int × ByteArray) × (Int × Int)))) (x20 : Int) (x21 : Int) (b1007bb : List Unit) (l501007 : List Int) : f24_12 n (m + 1) x19 x20 x21 b1007bb l501007 =
  bif decide (x21 < x20) then
   bif decide ((0 : Int) ≤ x21 ∧ x21 < ↑x19.length) then
    (f40 n (x19.getD x21.toNat ((0 : Int), ((0 : Int), ByteArray.empty), (0 : Int), (0 : Int))).snd.fst.snd s24x0).bind fun r1 =>
    bif r1 then
     some (ByteArray.empty, x21, (212 : Int))
    else
     (f42 n (x19.getD x21.toNat ((0 : Int), ((0 : Int), ByteArray.empty), (0 : Int), (0 : Int)))).bind fun r2 =>
     bif decide (↑(ByteArray.size r2 + (1 : Nat)) > Int.ofNat (9223372036854775807 : Nat)) then
      none
     else
      (f41z n (r2 ++ s24x0) b1007bb l501007).bind fun r3 =>
      f24_1000012 n m x19 x20 (Go.IntKind.i64.wrap (x21 + (1 : Int))) r3.snd.fst.snd.snd r3.snd.snd.fst
   else
    none
  else
   (f43z n b1007bb l501007).bind fun r4 =>
   some (r4.fst, (0 : Int), (0 : Int)) := by kernel_rfl
theorem f24_1000012_zero (n : Nat) (x19 : List (Int × ((Int × ByteArray) × (Int × Int)))) (x20 : Int) (x21 : Int) (b1007bb : List Unit) (l501007 : List Int) : f24_1000012 n 0 x19 x20 x21 b1007bb l501007 = none := rfl
theorem f24_1000012_eq (n m : Nat) (x19 : List (Int × ((Int × ByteArray) × (Int × Int)))) (x20 : Int) (x21 : Int) (b1007bb : List Unit) (l501007 : List Int) : f24_1000012 n (m + 1) x19 x20 x21 b1007bb l501007 =
  bif decide (x21 < x20) then
   bif decide ((0 : Int) ≤ x21 ∧ x21 < ↑x19.length) then
    (f40 n (x19.getD x21.toNat ((0 : Int), ((0 : Int), ByteArray.empty), (0 : Int), (0 : Int))).snd.fst.snd s24x0).bind fun r1 =>
    bif r1 then
     some (ByteArray.empty, x21, (212 : Int))
    else
     (f42 n (x19.getD x21.toNat ((0 : Int), ((0 : Int), ByteArray.empty), (0 : Int), (0 : Int)))).bind fun r2 =>
     bif decide (↑(ByteArray.size r2 + (1 : Nat)) > Int.ofNat (9223372036854775807 : Nat)) then
      none
     else
      (f41u n (r2 ++ s24x0) b1007bb l501007).bind fun r3 =>
      f24_1000012 n m x19 x20 (Go.IntKind.i64.wrap (x21 + (1 : Int))) r3.snd.fst.snd.snd r3.snd.snd.fst
   else
    none
  else
   (f43u n b1007bb l501007).bind fun r4 =>
   some (r4.fst, (0 : Int), (0 : Int)) := by kernel_rfl
theorem f24_eq (n : Nat) (l : List (Int × ((Int × ByteArray) × (Int × Int)))) : f24 n l =
  (f23 n l).bind fun r1 =>
  bif r1.snd != (0 : Int) then
   some (ByteArray.empty, r1.fst, r1.snd)
  else
   f24_12 n n l ↑l.length (0 : Int) [] [] := by kernel_rfl
end Go.Proofs.YthpcpofcadpijaaDoor
