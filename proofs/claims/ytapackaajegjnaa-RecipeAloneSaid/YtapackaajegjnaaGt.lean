/- What functions compute: printed, and checked by the kernel. -/
import Derived.Test.YtapackaajegjnaaGb
import Derived.Test.YtapackaajegjnaaGs
namespace Go.Proofs.Ytapackaajegjnaa
open Go.Rf
/- convoy/convoyref08.Alone -/
noncomputable def c19 : Cfg := ⟨19, Try.f19, [(.sl 76 (.agg (.pair (.int .i64) (.pair (.int .i64) (.int .i64))))), (.agg (.pair (.agg (.pair (.int .u16) .str)) (.pair (.int .i64) .bool)))], [(.agg (.pair (.int .i64) (.agg (.pair (.int .i64) (.pair (.int .i64) (.int .i64)))))), (.int .i64)], 6, [], [(4, ⟨38, 6, [(0, (.val (.sl 76 (.agg (.pair (.int .i64) (.pair (.int .i64) (.int .i64))))))), (3, (.ptr 1003 [])), (4, (.ptr 1004 [])), (6, (.ptr 1006 [])), (7, (.val (.int .i64)))], [(1003, .box (.val (.agg (.pair (.agg (.pair (.int .u16) .str)) (.pair (.int .i64) .bool))))), (1004, .box (.val (.agg (.pair (.int .i64) (.agg (.pair (.int .i64) (.pair (.int .i64) (.int .i64)))))))), (1006, .box (.val (.agg (.pair (.int .i64) (.pair (.int .i64) (.pair (.int .i64) (.int .i64)))))))]⟩)]⟩
noncomputable def T19 (n : Nat) : Tab := ⟨[e18 n], []⟩
noncomputable def e19 (n : Nat) : Entry := c19.entry Try.prog (T19 n) n
theorem ok19 {W0 : World} (n : Nat) : FnOK Try.prog W0 (e19 n) := c19.sound (.cons (ok18 n) .nil) n Try.func19 (by kernel_rfl) (by kernel_rfl)
noncomputable def f19 (n : Nat) (l : List (Int × (Int × Int))) (x : ((Int × ByteArray) × (Int × Bool))) : Option ((Int × (Int × (Int × Int))) × Int) := c19.f Try.prog (T19 n) n (l, x)
noncomputable def f19_4 (n m : Nat) (l : List (Int × (Int × Int))) (slept : Int) (b1003 : ((Int × ByteArray) × (Int × Bool))) (b1004 : (Int × (Int × (Int × Int)))) (b1006 : (Int × (Int × (Int × Int)))) : Option ((Int × (Int × (Int × Int))) × Int) := c19.LL Try.prog (T19 n) m 4 (l, (), (), (), slept) (b1003, b1004, b1006, ())
theorem f19_4_zero (n : Nat) (l : List (Int × (Int × Int))) (slept : Int) (b1003 : ((Int × ByteArray) × (Int × Bool))) (b1004 : (Int × (Int × (Int × Int)))) (b1006 : (Int × (Int × (Int × Int)))) : f19_4 n 0 l slept b1003 b1004 b1006 = none := rfl
theorem f19_4_eq (n m : Nat) (l : List (Int × (Int × Int))) (slept : Int) (b1003 : ((Int × ByteArray) × (Int × Bool))) (b1004 : (Int × (Int × (Int × Int)))) (b1006 : (Int × (Int × (Int × Int)))) : f19_4 n (m + 1) l slept b1003 b1004 b1006 =
  (f18 n l b1006 b1003).bind fun r1 =>
  bif r1.snd.snd then
   some (r1.snd.fst, slept)
  else
   bif r1.fst.snd.snd.fst == (2 : Int) then
    bif decide (r1.fst.snd.snd.snd > Go.IntKind.i64.wrap ((4611686018427387904 : Int) - slept)) then
     f19_4 n m l (4611686018427387904 : Int) b1003 b1004 ((r1.fst.fst, r1.fst.snd.fst, (0 : Int), (0 : Int)))
    else
     f19_4 n m l (Go.IntKind.i64.wrap (slept + r1.fst.snd.snd.snd)) b1003 b1004 ((r1.fst.fst, r1.fst.snd.fst, (0 : Int), (0 : Int)))
   else
    f19_4 n m l slept b1003 b1004 ((r1.fst.fst, r1.fst.snd.fst, (0 : Int), (0 : Int))) := by kernel_rfl
theorem f19_eq (n : Nat) (l : List (Int × (Int × Int))) (x : ((Int × ByteArray) × (Int × Bool))) : f19 n l x =
  f19_4 n n l (0 : Int) x (((0 : Int), (0 : Int), (0 : Int), (0 : Int))) (((0 : Int), (0 : Int), (0 : Int), (0 : Int))) := by kernel_rfl
/- convoy/recipe.Gates -/
noncomputable def c20 : Cfg := ⟨20, Try.f20, [(.sl 30 (.agg (.pair (.int .i64) (.pair (.int .i64) (.int .i64)))))], [(.sl 3 (.int .i64))], 5, [], [(6, ⟨25, 5, [(3, (.rs 1003)), (6, (.val (.sl 30 (.agg (.pair (.int .i64) (.pair (.int .i64) (.int .i64))))))), (7, (.val (.int .i64))), (8, (.val (.int .i64)))], [(1003, .row 3 (.int .i64))]⟩)]⟩
noncomputable def T20 (n : Nat) : Tab := ⟨[], [e33o n, e34o n]⟩
noncomputable def e20 (n : Nat) : Entry := c20.entry Try.prog (T20 n) n
theorem ok20 {W0 : World} (n : Nat) : FnOK Try.prog W0 (e20 n) := c20.sound (.ocons (ok33o n) (.ocons (ok34o n) .nil)) n Try.func20 (by kernel_rfl) (by kernel_rfl)
noncomputable def f20 (n : Nat) (l : List (Int × (Int × Int))) : Option (List Int) := c20.f Try.prog (T20 n) n l
noncomputable def f20_6 (n m : Nat) (x6 : List (Int × (Int × Int))) (x7 : Int) (x8 : Int) (l1003 : List Int) : Option (List Int) := c20.LL Try.prog (T20 n) m 6 ((), x6, x7, x8) (l1003, ())
theorem f20_6_zero (n : Nat) (x6 : List (Int × (Int × Int))) (x7 : Int) (x8 : Int) (l1003 : List Int) : f20_6 n 0 x6 x7 x8 l1003 = none := rfl
theorem f20_6_eq (n m : Nat) (x6 : List (Int × (Int × Int))) (x7 : Int) (x8 : Int) (l1003 : List Int) : f20_6 n (m + 1) x6 x7 x8 l1003 =
  bif decide (x8 < x7) then
   bif decide ((0 : Int) ≤ x8 ∧ x8 < ↑x6.length) then
    bif (x6.getD x8.toNat ((0 : Int), (0 : Int), (0 : Int))).fst == (6 : Int) then
     bif decide ((l1003.length + [(x6.getD x8.toNat ((0 : Int), (0 : Int), (0 : Int))).snd.fst].length) * (8 : Nat) ≤ Go.Rf.maxBytes) then
      f20_6 n m x6 x7 (Go.IntKind.i64.wrap (x8 + (1 : Int))) (l1003 ++ [(x6.getD x8.toNat ((0 : Int), (0 : Int), (0 : Int))).snd.fst])
     else
      none
    else
     f20_6 n m x6 x7 (Go.IntKind.i64.wrap (x8 + (1 : Int))) l1003
   else
    none
  else
   (f33o n l1003).bind fun r1 =>
   (f34o n r1.snd.1).bind fun r2 =>
   some r2.snd.fst := by kernel_rfl
theorem f20_eq (n : Nat) (l : List (Int × (Int × Int))) : f20 n l =
  f20_6 n n l ↑l.length (0 : Int) [] := by kernel_rfl
/- convoy/recipe.Longest -/
noncomputable def c21 : Cfg := ⟨21, Try.f21, [(.sl 30 (.agg (.pair (.int .i64) (.pair (.int .i64) (.int .i64)))))], [(.int .i64), .bool], 5, [], [(6, ⟨31, 5, [(4, (.val (.int .i64))), (9, (.val (.sl 30 (.agg (.pair (.int .i64) (.pair (.int .i64) (.int .i64))))))), (10, (.val (.int .i64))), (11, (.val (.int .i64)))], []⟩)]⟩
noncomputable def T21 (n : Nat) : Tab := ⟨[e23 n], []⟩
noncomputable def e21 (n : Nat) : Entry := c21.entry Try.prog (T21 n) n
theorem ok21 {W0 : World} (n : Nat) : FnOK Try.prog W0 (e21 n) := c21.sound (.cons (ok23 n) .nil) n Try.func21 (by kernel_rfl) (by kernel_rfl)
noncomputable def f21 (n : Nat) (l : List (Int × (Int × Int))) : Option (Int × Bool) := c21.f Try.prog (T21 n) n l
noncomputable def f21_6 (n m : Nat) (all : Int) (x9 : List (Int × (Int × Int))) (x10 : Int) (x11 : Int) : Option (Int × Bool) := c21.LL Try.prog (T21 n) m 6 (all, x9, x10, x11) ()
theorem f21_6_zero (n : Nat) (all : Int) (x9 : List (Int × (Int × Int))) (x10 : Int) (x11 : Int) : f21_6 n 0 all x9 x10 x11 = none := rfl
theorem f21_6_eq (n m : Nat) (all : Int) (x9 : List (Int × (Int × Int))) (x10 : Int) (x11 : Int) : f21_6 n (m + 1) all x9 x10 x11 =
  bif decide (x11 < x10) then
   bif decide ((0 : Int) ≤ x11 ∧ x11 < ↑x9.length) then
    bif (x9.getD x11.toNat ((0 : Int), (0 : Int), (0 : Int))).fst != (7 : Int) then
     f21_6 n m all x9 x10 (Go.IntKind.i64.wrap (x11 + (1 : Int)))
    else
     (f23 n all (if (0 : Int) > (x9.getD x11.toNat ((0 : Int), (0 : Int), (0 : Int))).snd.fst then (0 : Int) else (x9.getD x11.toNat ((0 : Int), (0 : Int), (0 : Int))).snd.fst)).bind fun r1 =>
     bif !r1.snd then
      some ((4611686018427387904 : Int), false)
     else
      f21_6 n m r1.fst x9 x10 (Go.IntKind.i64.wrap (x11 + (1 : Int)))
   else
    none
  else
   some (all, true) := by kernel_rfl
theorem f21_eq (n : Nat) (l : List (Int × (Int × Int))) : f21 n l =
  f21_6 n n (0 : Int) l ↑l.length (0 : Int) := by kernel_rfl
/- convoy/convoylaw08.RecipeAlone -/
noncomputable def c5 : Cfg := ⟨5, Try.f5, [(.sl 30 (.agg (.pair (.int .i64) (.pair (.int .i64) (.int .i64))))), (.agg (.pair (.agg (.pair (.int .u16) .str)) (.pair (.int .i64) .bool)))], [.bool], 8, [], [(26, ⟨152, 8, [(0, (.val (.sl 30 (.agg (.pair (.int .i64) (.pair (.int .i64) (.int .i64))))))), (12, (.mp 1071)), (13, (.val (.int .i64))), (14, (.val .bool)), (72, (.val (.sl 30 (.agg (.pair (.int .i64) (.pair (.int .i64) (.int .i64))))))), (73, (.val (.int .i64))), (74, (.val (.int .i64)))], [(1071, .map 2 4 (.int .i64) .bool)]⟩), (48, ⟨152, 8, [(0, (.val (.sl 30 (.agg (.pair (.int .i64) (.pair (.int .i64) (.int .i64))))))), (12, (.mp 1071)), (13, (.val (.int .i64))), (14, (.val .bool)), (17, (.val (.sl 3 (.int .i64)))), (107, (.val (.sl 3 (.int .i64)))), (108, (.val (.int .i64))), (109, (.val (.int .i64)))], [(1071, .map 2 4 (.int .i64) .bool)]⟩)]⟩
noncomputable def T5 (n : Nat) : Tab := ⟨[e6 n, e7 n, e10 n, e9 n, e16 n, e19 n, e17 n, e20 n, e21 n], []⟩
noncomputable def e5 (n : Nat) : Entry := c5.entry Try.prog (T5 n) n
theorem ok5 {W0 : World} (n : Nat) : FnOK Try.prog W0 (e5 n) := c5.sound (.cons (ok6 n) (.cons (ok7 n) (.cons (ok10 n) (.cons (ok9 n) (.cons (ok16 n) (.cons (ok19 n) (.cons (ok17 n) (.cons (ok20 n) (.cons (ok21 n) .nil))))))))) n Try.func5 (by kernel_rfl) (by kernel_rfl)
noncomputable def f5 (n : Nat) (l : List (Int × (Int × Int))) (x : ((Int × ByteArray) × (Int × Bool))) : Option (Bool) := c5.f Try.prog (T5 n) n (l, x)
noncomputable def f5_26 (n m : Nat) (l : List (Int × (Int × Int))) (all : Int) (fits : Bool) (x72 : List (Int × (Int × Int))) (x73 : Int) (x74 : Int) (m1071 : List (Int × Bool)) : Option (Bool) := c5.LL Try.prog (T5 n) m 26 (l, (), all, fits, x72, x73, x74) (m1071, ())
noncomputable def f5_48 (n m : Nat) (l : List (Int × (Int × Int))) (all : Int) (fits : Bool) (had : List Int) (x107 : List Int) (x108 : Int) (x109 : Int) (m1071 : List (Int × Bool)) : Option (Bool) := c5.LL Try.prog (T5 n) m 48 (l, (), all, fits, had, x107, x108, x109) (m1071, ())
theorem f5_26_zero (n : Nat) (l : List (Int × (Int × Int))) (all : Int) (fits : Bool) (x72 : List (Int × (Int × Int))) (x73 : Int) (x74 : Int) (m1071 : List (Int × Bool)) : f5_26 n 0 l all fits x72 x73 x74 m1071 = none := rfl
theorem f5_26_eq (n m : Nat) (l : List (Int × (Int × Int))) (all : Int) (fits : Bool) (x72 : List (Int × (Int × Int))) (x73 : Int) (x74 : Int) (m1071 : List (Int × Bool)) : f5_26 n (m + 1) l all fits x72 x73 x74 m1071 =
  bif decide (x74 < x73) then
   bif decide ((0 : Int) ≤ x74 ∧ x74 < ↑x72.length) then
    bif (x72.getD x74.toNat ((0 : Int), (0 : Int), (0 : Int))).fst == (6 : Int) then
     bif (x72.getD x74.toNat ((0 : Int), (0 : Int), (0 : Int))).fst == (7 : Int) then
      bif decide ((x72.getD x74.toNat ((0 : Int), (0 : Int), (0 : Int))).snd.fst > (0 : Int)) then
       bif fits then
        bif decide ((x72.getD x74.toNat ((0 : Int), (0 : Int), (0 : Int))).snd.fst > Go.IntKind.i64.wrap ((4611686018427387904 : Int) - all)) then
         f5_26 n m l (4611686018427387904 : Int) false x72 x73 (Go.IntKind.i64.wrap (x74 + (1 : Int))) (Go.Rf.mput (Go.Rf.eqD (Go.Rf.Ty.int Go.IntKind.i64)) (x72.getD x74.toNat ((0 : Int), (0 : Int), (0 : Int))).snd.fst true m1071)
        else
         f5_26 n m l (Go.IntKind.i64.wrap (all + (x72.getD x74.toNat ((0 : Int), (0 : Int), (0 : Int))).snd.fst)) fits x72 x73 (Go.IntKind.i64.wrap (x74 + (1 : Int))) (Go.Rf.mput (Go.Rf.eqD (Go.Rf.Ty.int Go.IntKind.i64)) (x72.getD x74.toNat ((0 : Int), (0 : Int), (0 : Int))).snd.fst true m1071)
       else
        f5_26 n m l all fits x72 x73 (Go.IntKind.i64.wrap (x74 + (1 : Int))) (Go.Rf.mput (Go.Rf.eqD (Go.Rf.Ty.int Go.IntKind.i64)) (x72.getD x74.toNat ((0 : Int), (0 : Int), (0 : Int))).snd.fst true m1071)
      else
       f5_26 n m l all fits x72 x73 (Go.IntKind.i64.wrap (x74 + (1 : Int))) (Go.Rf.mput (Go.Rf.eqD (Go.Rf.Ty.int Go.IntKind.i64)) (x72.getD x74.toNat ((0 : Int), (0 : Int), (0 : Int))).snd.fst true m1071)
     else
      f5_26 n m l all fits x72 x73 (Go.IntKind.i64.wrap (x74 + (1 : Int))) (Go.Rf.mput (Go.Rf.eqD (Go.Rf.Ty.int Go.IntKind.i64)) (x72.getD x74.toNat ((0 : Int), (0 : Int), (0 : Int))).snd.fst true m1071)
    else
     bif (x72.getD x74.toNat ((0 : Int), (0 : Int), (0 : Int))).fst == (7 : Int) then
      bif decide ((x72.getD x74.toNat ((0 : Int), (0 : Int), (0 : Int))).snd.fst > (0 : Int)) then
       bif fits then
        bif decide ((x72.getD x74.toNat ((0 : Int), (0 : Int), (0 : Int))).snd.fst > Go.IntKind.i64.wrap ((4611686018427387904 : Int) - all)) then
         f5_26 n m l (4611686018427387904 : Int) false x72 x73 (Go.IntKind.i64.wrap (x74 + (1 : Int))) m1071
        else
         f5_26 n m l (Go.IntKind.i64.wrap (all + (x72.getD x74.toNat ((0 : Int), (0 : Int), (0 : Int))).snd.fst)) fits x72 x73 (Go.IntKind.i64.wrap (x74 + (1 : Int))) m1071
       else
        f5_26 n m l all fits x72 x73 (Go.IntKind.i64.wrap (x74 + (1 : Int))) m1071
      else
       f5_26 n m l all fits x72 x73 (Go.IntKind.i64.wrap (x74 + (1 : Int))) m1071
     else
      f5_26 n m l all fits x72 x73 (Go.IntKind.i64.wrap (x74 + (1 : Int))) m1071
   else
    none
  else
   (f20 n l).bind fun r1 =>
   f5_48 n m l all fits r1 r1 (↑(List.length r1)) (0 : Int) m1071 := by kernel_rfl
theorem f5_48_zero (n : Nat) (l : List (Int × (Int × Int))) (all : Int) (fits : Bool) (had : List Int) (x107 : List Int) (x108 : Int) (x109 : Int) (m1071 : List (Int × Bool)) : f5_48 n 0 l all fits had x107 x108 x109 m1071 = none := rfl
theorem f5_48_eq (n m : Nat) (l : List (Int × (Int × Int))) (all : Int) (fits : Bool) (had : List Int) (x107 : List Int) (x108 : Int) (x109 : Int) (m1071 : List (Int × Bool)) : f5_48 n (m + 1) l all fits had x107 x108 x109 m1071 =
  bif decide (x109 < x108) then
   bif decide ((0 : Int) ≤ x109 ∧ x109 < ↑x107.length) then
    bif !(Go.Rf.mget (Go.Rf.eqD (Go.Rf.Ty.int Go.IntKind.i64)) (x107.getD x109.toNat (0 : Int)) m1071).getD false then
     some false
    else
     bif decide (x109 > (0 : Int)) then
      bif decide ((0 : Int) ≤ Go.IntKind.i64.wrap (x109 - (1 : Int)) ∧ Go.IntKind.i64.wrap (x109 - (1 : Int)) < ↑had.length) then
       bif decide (x107.getD x109.toNat (0 : Int) ≤ had.getD (Go.IntKind.i64.wrap (x109 - (1 : Int))).toNat (0 : Int)) then
        some false
       else
        f5_48 n m l all fits had x107 x108 (Go.IntKind.i64.wrap (x109 + (1 : Int))) m1071
      else
       none
     else
      f5_48 n m l all fits had x107 x108 (Go.IntKind.i64.wrap (x109 + (1 : Int))) m1071
   else
    none
  else
   (f21 n l).bind fun r1 =>
   bif (↑had.length : Int) == ↑m1071.length then
    bif r1.fst == all then
     some (r1.snd == fits)
    else
     some false
   else
    some false := by kernel_rfl
theorem f5_eq (n : Nat) (l : List (Int × (Int × Int))) (x : ((Int × ByteArray) × (Int × Bool))) : f5 n l x =
  (f6 n).bind fun r1 =>
  bif !r1 then
   some false
  else
   (f7 n l x).bind fun r2 =>
   (f10 n l).bind fun r3 =>
   (f9 n r3).bind fun r4 =>
   bif r4.snd != (0 : Int) then
    bif !(r2.fst.fst == (0 : Int) && (r2.fst.snd.fst == (0 : Int) && (r2.fst.snd.snd.fst == (0 : Int) && r2.fst.snd.snd.snd == (0 : Int)))) then
     some false
    else
     bif r2.snd.fst != (0 : Int) then
      some false
     else
      bif r2.snd.snd != (80 : Int) then
       some false
      else
       f5_26 n n l (0 : Int) true l ↑l.length (0 : Int) []
   else
    (f10 n l).bind fun r5 =>
    (f16 n x).bind fun r6 =>
    (f19 n r5 r6).bind fun r7 =>
    (f17 n r7.fst).bind fun r8 =>
    bif !(r2.fst.fst == r8.fst && (r2.fst.snd.fst == r8.snd.fst && (r2.fst.snd.snd.fst == r8.snd.snd.fst && r2.fst.snd.snd.snd == r8.snd.snd.snd))) then
     some false
    else
     bif r2.snd.fst != r7.snd then
      some false
     else
      bif r2.snd.snd != (0 : Int) then
       some false
      else
       f5_26 n n l (0 : Int) true l ↑l.length (0 : Int) [] := by kernel_rfl
end Go.Proofs.Ytapackaajegjnaa
