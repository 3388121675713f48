/- What functions compute: printed, and checked by the kernel. -/
import Derived.Test.YthpcpofcadpijaaDoorGe
namespace Go.Proofs.YthpcpofcadpijaaDoor
open Go.Rf
/- convoy/key.Unlike -/
noncomputable def c30 : Cfg := ⟨30, Tryd.f30, [(.sl 27 (.agg (.pair (.int .u16) .str)))], [(.sl 27 (.agg (.pair (.int .u16) .str)))], 5, [], [(8, ⟨26, 5, [(3, (.rs 1003)), (4, (.mp 1007)), (8, (.val (.sl 27 (.agg (.pair (.int .u16) .str))))), (9, (.val (.int .i64))), (10, (.val (.int .i64)))], [(1003, .row 27 (.agg (.pair (.int .u16) .str))), (1007, .map 27 4 (.agg (.pair (.int .u16) .str)) .bool)]⟩)]⟩
noncomputable def T30 (_ : Nat) : Tab := ⟨[], []⟩
noncomputable def e30 (n : Nat) : Entry := c30.entry Tryd.prog (T30 n) n
theorem ok30 {W0 : World} (n : Nat) : FnOK Tryd.prog W0 (e30 n) := c30.sound .nil n Tryd.func30 (by kernel_rfl) (by kernel_rfl)
noncomputable def f30 (n : Nat) (l : List (Int × ByteArray)) : Option (List (Int × ByteArray)) := c30.f Tryd.prog (T30 n) n l
noncomputable def f30_8 (n m : Nat) (x8 : List (Int × ByteArray)) (x9 : Int) (x10 : Int) (l1003 : List (Int × ByteArray)) (m1007 : List ((Int × ByteArray) × Bool)) : Option (List (Int × ByteArray)) := c30.LL Tryd.prog (T30 n) m 8 ((), (), x8, x9, x10) (l1003, m1007, ())
theorem f30_8_zero (n : Nat) (x8 : List (Int × ByteArray)) (x9 : Int) (x10 : Int) (l1003 : List (Int × ByteArray)) (m1007 : List ((Int × ByteArray) × Bool)) : f30_8 n 0 x8 x9 x10 l1003 m1007 = none := rfl
theorem f30_8_eq (n m : Nat) (x8 : List (Int × ByteArray)) (x9 : Int) (x10 : Int) (l1003 : List (Int × ByteArray)) (m1007 : List ((Int × ByteArray) × Bool)) : f30_8 n (m + 1) x8 x9 x10 l1003 m1007 =
  bif decide (x10 < x9) then
   bif decide ((0 : Int) ≤ x10 ∧ x10 < ↑x8.length) then
    bif !(Go.Rf.mget (Go.Rf.eqD ((Go.Rf.Ty.int Go.IntKind.u16).pair Go.Rf.Ty.str).agg) (x8.getD x10.toNat ((0 : Int), ByteArray.empty)) m1007).getD false then
     bif decide ((l1003.length + [x8.getD x10.toNat ((0 : Int), ByteArray.empty)].length) * (24 : Nat) ≤ Go.Rf.maxBytes) then
      f30_8 n m x8 x9 (Go.IntKind.i64.wrap (x10 + (1 : Int))) (l1003 ++ [x8.getD x10.toNat ((0 : Int), ByteArray.empty)]) (Go.Rf.mput (Go.Rf.eqD ((Go.Rf.Ty.int Go.IntKind.u16).pair Go.Rf.Ty.str).agg) (x8.getD x10.toNat ((0 : Int), ByteArray.empty)) true m1007)
     else
      none
    else
     f30_8 n m x8 x9 (Go.IntKind.i64.wrap (x10 + (1 : Int))) l1003 m1007
   else
    none
  else
   some l1003 := by kernel_rfl
theorem f30_eq (n : Nat) (l : List (Int × ByteArray)) : f30 n l =
  f30_8 n n l ↑l.length (0 : Int) [] [] := by kernel_rfl
/- convoy/client.Keys -/
noncomputable def c7 : Cfg := ⟨7, Tryd.f7, [(.sl 29 (.agg (.pair (.int .i64) (.pair (.agg (.pair (.int .u16) .str)) (.pair (.int .i64) (.int .i64))))))], [(.sl 27 (.agg (.pair (.int .u16) .str)))], 5, [], [(6, ⟨24, 5, [(3, (.rs 1003)), (6, (.val (.sl 29 (.agg (.pair (.int .i64) (.pair (.agg (.pair (.int .u16) .str)) (.pair (.int .i64) (.int .i64)))))))), (7, (.val (.int .i64))), (8, (.val (.int .i64)))], [(1003, .row 27 (.agg (.pair (.int .u16) .str)))]⟩)]⟩
noncomputable def T7 (n : Nat) : Tab := ⟨[e29 n, e30 n], []⟩
noncomputable def e7 (n : Nat) : Entry := c7.entry Tryd.prog (T7 n) n
theorem ok7 {W0 : World} (n : Nat) : FnOK Tryd.prog W0 (e7 n) := c7.sound (.cons (ok29 n) (.cons (ok30 n) .nil)) n Tryd.func7 (by kernel_rfl) (by kernel_rfl)
noncomputable def f7 (n : Nat) (l : List (Int × ((Int × ByteArray) × (Int × Int)))) : Option (List (Int × ByteArray)) := c7.f Tryd.prog (T7 n) n l
noncomputable def f7_6 (n m : Nat) (x6 : List (Int × ((Int × ByteArray) × (Int × Int)))) (x7 : Int) (x8 : Int) (l1003 : List (Int × ByteArray)) : Option (List (Int × ByteArray)) := c7.LL Tryd.prog (T7 n) m 6 ((), x6, x7, x8) (l1003, ())
theorem f7_6_zero (n : Nat) (x6 : List (Int × ((Int × ByteArray) × (Int × Int)))) (x7 : Int) (x8 : Int) (l1003 : List (Int × ByteArray)) : f7_6 n 0 x6 x7 x8 l1003 = none := rfl
theorem f7_6_eq (n m : Nat) (x6 : List (Int × ((Int × ByteArray) × (Int × Int)))) (x7 : Int) (x8 : Int) (l1003 : List (Int × ByteArray)) : f7_6 n (m + 1) x6 x7 x8 l1003 =
  bif decide (x8 < x7) then
   bif decide ((0 : Int) ≤ x8 ∧ x8 < ↑x6.length) then
    (f29 n (x6.getD x8.toNat ((0 : Int), ((0 : Int), ByteArray.empty), (0 : Int), (0 : Int))).fst).bind fun r1 =>
    bif r1.snd.fst then
     bif decide ((l1003.length + [(x6.getD x8.toNat ((0 : Int), ((0 : Int), ByteArray.empty), (0 : Int), (0 : Int))).snd.fst].length) * (24 : Nat) ≤ Go.Rf.maxBytes) then
      f7_6 n m x6 x7 (Go.IntKind.i64.wrap (x8 + (1 : Int))) (l1003 ++ [(x6.getD x8.toNat ((0 : Int), ((0 : Int), ByteArray.empty), (0 : Int), (0 : Int))).snd.fst])
     else
      none
    else
     f7_6 n m x6 x7 (Go.IntKind.i64.wrap (x8 + (1 : Int))) l1003
   else
    none
  else
   (f30 n l1003).bind fun r2 =>
   some r2 := by kernel_rfl
theorem f7_eq (n : Nat) (l : List (Int × ((Int × ByteArray) × (Int × Int)))) : f7 n l =
  f7_6 n n l ↑l.length (0 : Int) [] := by kernel_rfl
/- convoy/convoylaw21.ClientKeys -/
noncomputable def c3 : Cfg := ⟨3, Tryd.f3, [(.sl 29 (.agg (.pair (.int .i64) (.pair (.agg (.pair (.int .u16) .str)) (.pair (.int .i64) (.int .i64))))))], [.bool], 7, [], [(8, ⟨82, 7, [(0, (.val (.sl 29 (.agg (.pair (.int .i64) (.pair (.agg (.pair (.int .u16) .str)) (.pair (.int .i64) (.int .i64)))))))), (3, (.val (.sl 27 (.agg (.pair (.int .u16) .str))))), (4, (.val (.int .i64))), (5, (.val (.int .i64)))], []⟩), (18, ⟨82, 7, [(0, (.val (.sl 29 (.agg (.pair (.int .i64) (.pair (.agg (.pair (.int .u16) .str)) (.pair (.int .i64) (.int .i64)))))))), (3, (.val (.sl 27 (.agg (.pair (.int .u16) .str))))), (4, (.val (.int .i64))), (5, (.val (.int .i64))), (6, (.val .bool)), (7, (.val (.int .i64)))], []⟩)]⟩
noncomputable def T3 (n : Nat) : Tab := ⟨[e7 n, e8 n], []⟩
noncomputable def e3 (n : Nat) : Entry := c3.entry Tryd.prog (T3 n) n
theorem ok3 {W0 : World} (n : Nat) : FnOK Tryd.prog W0 (e3 n) := c3.sound (.cons (ok7 n) (.cons (ok8 n) .nil)) n Tryd.func3 (by kernel_rfl) (by kernel_rfl)
noncomputable def f3 (n : Nat) (l : List (Int × ((Int × ByteArray) × (Int × Int)))) : Option (Bool) := c3.f Tryd.prog (T3 n) n l
noncomputable def f3_8 (n m : Nat) (l : List (Int × ((Int × ByteArray) × (Int × Int)))) (keys : List (Int × ByteArray)) (x4 : Int) (i : Int) : Option (Bool) := c3.LL Tryd.prog (T3 n) m 8 (l, keys, x4, i) ()
noncomputable def f3_18 (n m : Nat) (l : List (Int × ((Int × ByteArray) × (Int × Int)))) (keys : List (Int × ByteArray)) (x4 : Int) (i : Int) (seen : Bool) (k : Int) : Option (Bool) := c3.LL Tryd.prog (T3 n) m 18 (l, keys, x4, i, seen, k) ()
theorem f3_8_zero (n : Nat) (l : List (Int × ((Int × ByteArray) × (Int × Int)))) (keys : List (Int × ByteArray)) (x4 : Int) (i : Int) : f3_8 n 0 l keys x4 i = none := rfl
theorem f3_8_eq (n m : Nat) (l : List (Int × ((Int × ByteArray) × (Int × Int)))) (keys : List (Int × ByteArray)) (x4 : Int) (i : Int) : f3_8 n (m + 1) l keys x4 i =
  bif decide (i < ↑l.length) then
   bif decide ((0 : Int) ≤ i ∧ i < ↑l.length) then
    bif (l.getD i.toNat ((0 : Int), ((0 : Int), ByteArray.empty), (0 : Int), (0 : Int))).fst != (1 : Int) then
     bif decide ((0 : Int) ≤ i ∧ i < ↑l.length) then
      bif (l.getD i.toNat ((0 : Int), ((0 : Int), ByteArray.empty), (0 : Int), (0 : Int))).fst != (2 : Int) then
       bif decide ((0 : Int) ≤ i ∧ i < ↑l.length) then
        bif (l.getD i.toNat ((0 : Int), ((0 : Int), ByteArray.empty), (0 : Int), (0 : Int))).fst != (4 : Int) then
         f3_8 n m l keys x4 (Go.IntKind.i64.wrap (i + (1 : Int)))
        else
         f3_18 n m l keys x4 i false (0 : Int)
       else
        none
      else
       f3_18 n m l keys x4 i false (0 : Int)
     else
      none
    else
     f3_18 n m l keys x4 i false (0 : Int)
   else
    none
  else
   (f8 n).bind fun r1 =>
   bif r1 then
    some (x4 == ↑keys.length)
   else
    some false := by kernel_rfl
theorem f3_18_zero (n : Nat) (l : List (Int × ((Int × ByteArray) × (Int × Int)))) (keys : List (Int × ByteArray)) (x4 : Int) (i : Int) (seen : Bool) (k : Int) : f3_18 n 0 l keys x4 i seen k = none := rfl
theorem f3_18_eq (n m : Nat) (l : List (Int × ((Int × ByteArray) × (Int × Int)))) (keys : List (Int × ByteArray)) (x4 : Int) (i : Int) (seen : Bool) (k : Int) : f3_18 n (m + 1) l keys x4 i seen k =
  bif decide (k < x4) then
   bif seen then
    f3_18 n m l keys x4 i true (Go.IntKind.i64.wrap (k + (1 : Int)))
   else
    bif decide ((0 : Int) ≤ k ∧ k < ↑keys.length) then
     bif decide ((0 : Int) ≤ i ∧ i < ↑l.length) then
      f3_18 n m l keys x4 i ((keys.getD k.toNat ((0 : Int), ByteArray.empty)).fst == (l.getD i.toNat ((0 : Int), ((0 : Int), ByteArray.empty), (0 : Int), (0 : Int))).snd.fst.fst && (keys.getD k.toNat ((0 : Int), ByteArray.empty)).snd == (l.getD i.toNat ((0 : Int), ((0 : Int), ByteArray.empty), (0 : Int), (0 : Int))).snd.fst.snd) (Go.IntKind.i64.wrap (k + (1 : Int)))
     else
      none
    else
     none
  else
   bif seen then
    f3_8 n m l keys x4 (Go.IntKind.i64.wrap (i + (1 : Int)))
   else
    bif decide (x4 ≥ ↑keys.length) then
     some false
    else
     bif decide ((0 : Int) ≤ x4 ∧ x4 < ↑keys.length) then
      bif decide ((0 : Int) ≤ i ∧ i < ↑l.length) then
       bif !((keys.getD x4.toNat ((0 : Int), ByteArray.empty)).fst == (l.getD i.toNat ((0 : Int), ((0 : Int), ByteArray.empty), (0 : Int), (0 : Int))).snd.fst.fst && (keys.getD x4.toNat ((0 : Int), ByteArray.empty)).snd == (l.getD i.toNat ((0 : Int), ((0 : Int), ByteArray.empty), (0 : Int), (0 : Int))).snd.fst.snd) then
        some false
       else
        f3_8 n m l keys (Go.IntKind.i64.wrap (x4 + (1 : Int))) (Go.IntKind.i64.wrap (i + (1 : Int)))
      else
       none
     else
      none := by kernel_rfl
theorem f3_eq (n : Nat) (l : List (Int × ((Int × ByteArray) × (Int × Int)))) : f3 n l =
  (f7 n l).bind fun r1 =>
  f3_8 n n l r1 (0 : Int) (0 : Int) := by kernel_rfl
end Go.Proofs.YthpcpofcadpijaaDoor
