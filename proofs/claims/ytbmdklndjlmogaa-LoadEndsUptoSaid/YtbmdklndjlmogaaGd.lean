/- What functions compute: printed, and checked by the kernel. -/
import Derived.Test.YtbmdklndjlmogaaGc
namespace Go.Proofs.Ytbmdklndjlmogaa
open Go.Rf
/- convoy/convoylaw14.awake -/
noncomputable def c7 : Cfg := ⟨7, Try.f7, [], [.bool], 6, [], []⟩
noncomputable def T7 (n : Nat) : Tab := ⟨[], [e6o n, e8o n, e9o n, e10o n, e12o n, e18o n]⟩
noncomputable def e7 (n : Nat) : Entry := c7.entry Try.prog (T7 n) n
theorem ok7 (n : Nat) : FnOK Try.prog (e7 n) := c7.sound (.ocons (ok6o n) (.ocons (ok8o n) (.ocons (ok9o n) (.ocons (ok10o n) (.ocons (ok12o n) (.ocons (ok18o n) .nil)))))) n Try.func7 (by kernel_rfl) (by kernel_rfl)
noncomputable def f7 (n : Nat) : Option (Bool) := c7.f Try.prog (T7 n) n ()
theorem f7_eq (n : Nat) : f7 n =
  (f6o n (1 : Int) [((1 : Int), ((0 : Int), ByteArray.empty), (0 : Int), [((1 : Int), (3 : Int), (0 : Int))])]).bind fun r1 =>
  Sum.elim (fun p2 =>
   bif p2.fst.snd.snd != (0 : Int) then
    some false
   else
    some false) (fun p2 =>
   bif p2.fst.snd.snd != (0 : Int) then
    some false
   else
    (f8o n).bind fun r3 =>
    (f9o n).bind fun r4 =>
    (f10o n).bind fun r5 =>
    (f12o n p2.snd.fst.fst p2.snd.fst.snd.snd.fst p2.snd.fst.snd.snd.snd.fst p2.snd.fst.snd.snd.snd.snd.fst p2.snd.fst.snd.snd.snd.snd.snd.fst p2.snd.fst.snd.snd.snd.snd.snd.snd.fst p2.snd.fst.snd.snd.snd.snd.snd.snd.snd.fst p2.snd.fst.snd.snd.snd.snd.snd.snd.snd.snd.snd r3.snd.snd.fst.1 r3.snd.snd.fst.snd.1 r3.snd.1 r4.snd.snd.snd.fst.fst r4.snd.snd.snd.fst.snd.fst r4.snd.1 r4.snd.snd.1 p2.snd.snd.1 p2.snd.snd.snd.1 r4.snd.snd.snd.snd.1 r5.snd.snd.1).bind fun r6 =>
    bif r6.fst.snd == (0 : Int) then
     bif r6.fst.fst.fst == (1 : Int) && (r6.fst.fst.snd.fst == (1 : Int) && (r6.fst.fst.snd.snd.fst == (0 : Int) && r6.fst.fst.snd.snd.snd == (0 : Int))) then
      (f18o n r6.snd.fst.fst r6.snd.fst.snd.snd.fst r6.snd.fst.snd.snd.snd.fst r6.snd.fst.snd.snd.snd.snd.fst r6.snd.fst.snd.snd.snd.snd.snd.fst r6.snd.fst.snd.snd.snd.snd.snd.snd.fst r6.snd.fst.snd.snd.snd.snd.snd.snd.snd.fst r6.snd.fst.snd.snd.snd.snd.snd.snd.snd.snd.snd r6.snd.snd.snd.snd.snd.snd.snd.snd.1 r6.snd.snd.snd.snd.snd.snd.snd.snd.snd.1).bind fun r7 =>
      some (r7.fst == (1 : Int))
     else
      some false
    else
     some false) r1 := by kernel_rfl
/- convoy/convoylaw14.LoadEnds -/
noncomputable def c3 : Cfg := ⟨3, Try.f3, [(.sl 33 (.agg (.pair (.int .i64) (.pair (.agg (.pair (.int .u16) .str)) (.pair (.int .i64) (.sl 35 (.agg (.pair (.int .i64) (.pair (.int .i64) (.int .i64))))))))))], [.bool], 8, [], [(12, ⟨145, 8, [(0, (.val (.sl 33 (.agg (.pair (.int .i64) (.pair (.agg (.pair (.int .u16) .str)) (.pair (.int .i64) (.sl 35 (.agg (.pair (.int .i64) (.pair (.int .i64) (.int .i64)))))))))))), (3, .nilp), (6, (.val (.int .i64))), (40, (.val (.sl 33 (.agg (.pair (.int .i64) (.pair (.agg (.pair (.int .u16) .str)) (.pair (.int .i64) (.sl 35 (.agg (.pair (.int .i64) (.pair (.int .i64) (.int .i64)))))))))))), (41, (.val (.int .i64))), (42, (.val (.int .i64)))], []⟩), (1000012, ⟨145, 8, [(0, (.val (.sl 33 (.agg (.pair (.int .i64) (.pair (.agg (.pair (.int .u16) .str)) (.pair (.int .i64) (.sl 35 (.agg (.pair (.int .i64) (.pair (.int .i64) (.int .i64)))))))))))), (3, (.ptr 2071 [])), (6, (.val (.int .i64))), (40, (.val (.sl 33 (.agg (.pair (.int .i64) (.pair (.agg (.pair (.int .u16) .str)) (.pair (.int .i64) (.sl 35 (.agg (.pair (.int .i64) (.pair (.int .i64) (.int .i64)))))))))))), (41, (.val (.int .i64))), (42, (.val (.int .i64)))], [(2071, .box (.agg (.pair (.val (.int .i64)) (.pair (.rs 4005) (.pair (.val (.int .i64)) (.pair (.val .bool) (.pair (.val (.agg (.pair (.int .i64) (.pair (.int .i64) (.pair (.int .i64) (.int .i64)))))) (.pair (.val (.int .i64)) (.pair (.val (.int .i64)) (.pair (.val (.int .i64)) (.pair (.rs 201001) (.val .bool)))))))))))), (4005, .row 33 (.agg (.pair (.int .i64) (.pair (.agg (.pair (.int .u16) .str)) (.pair (.int .i64) (.sl 35 (.agg (.pair (.int .i64) (.pair (.int .i64) (.int .i64)))))))))), (201001, .row 53 (.agg (.pair (.int .i64) (.agg (.pair (.int .i64) (.agg (.pair (.int .i64) (.pair (.int .i64) (.int .i64)))))))))]⟩), (20, ⟨145, 8, [(0, (.val (.sl 33 (.agg (.pair (.int .i64) (.pair (.agg (.pair (.int .u16) .str)) (.pair (.int .i64) (.sl 35 (.agg (.pair (.int .i64) (.pair (.int .i64) (.int .i64)))))))))))), (3, .nilp), (6, (.val (.int .i64))), (40, (.val (.sl 33 (.agg (.pair (.int .i64) (.pair (.agg (.pair (.int .u16) .str)) (.pair (.int .i64) (.sl 35 (.agg (.pair (.int .i64) (.pair (.int .i64) (.int .i64)))))))))))), (41, (.val (.int .i64))), (42, (.val (.int .i64))), (52, (.val (.sl 35 (.agg (.pair (.int .i64) (.pair (.int .i64) (.int .i64))))))), (53, (.val (.int .i64))), (54, (.val (.int .i64)))], []⟩), (36, ⟨145, 8, [(0, (.val (.sl 33 (.agg (.pair (.int .i64) (.pair (.agg (.pair (.int .u16) .str)) (.pair (.int .i64) (.sl 35 (.agg (.pair (.int .i64) (.pair (.int .i64) (.int .i64)))))))))))), (3, .nilp), (6, (.val (.int .i64))), (11, (.ptr 2003 [])), (12, (.ptr 3008 [])), (13, (.ptr 203008 [])), (14, (.val (.int .i64)))], [(2001, .map 3 3 (.int .i64) (.int .i64)), (2003, .box (.agg (.pair (.val (.arr 256 .bool)) (.pair (.val (.arr 256 .nilp)) (.mp 2001))))), (3005, .map 3 2 (.int .i64) (.int .i64)), (3006, .map 2 59 (.int .i64) (.sl 3 (.int .i64))), (3008, .box (.agg (.pair (.val (.int .i64)) (.pair (.val (.int .i64)) (.pair (.mp 3005) (.pair (.rs 202005) (.mp 3006))))))), (202005, .row 2 (.int .i64)), (203008, .box (.agg (.rs 402007))), (402007, .row 134 (.agg (.pair (.int .i64) (.pair (.int .i64) (.int .i64)))))]⟩), (1000020, ⟨145, 8, [(0, (.val (.sl 33 (.agg (.pair (.int .i64) (.pair (.agg (.pair (.int .u16) .str)) (.pair (.int .i64) (.sl 35 (.agg (.pair (.int .i64) (.pair (.int .i64) (.int .i64)))))))))))), (3, (.ptr 2071 [])), (6, (.val (.int .i64))), (40, (.val (.sl 33 (.agg (.pair (.int .i64) (.pair (.agg (.pair (.int .u16) .str)) (.pair (.int .i64) (.sl 35 (.agg (.pair (.int .i64) (.pair (.int .i64) (.int .i64)))))))))))), (41, (.val (.int .i64))), (42, (.val (.int .i64))), (52, (.val (.sl 35 (.agg (.pair (.int .i64) (.pair (.int .i64) (.int .i64))))))), (53, (.val (.int .i64))), (54, (.val (.int .i64)))], [(2071, .box (.agg (.pair (.val (.int .i64)) (.pair (.rs 4005) (.pair (.val (.int .i64)) (.pair (.val .bool) (.pair (.val (.agg (.pair (.int .i64) (.pair (.int .i64) (.pair (.int .i64) (.int .i64)))))) (.pair (.val (.int .i64)) (.pair (.val (.int .i64)) (.pair (.val (.int .i64)) (.pair (.rs 201001) (.val .bool)))))))))))), (4005, .row 33 (.agg (.pair (.int .i64) (.pair (.agg (.pair (.int .u16) .str)) (.pair (.int .i64) (.sl 35 (.agg (.pair (.int .i64) (.pair (.int .i64) (.int .i64)))))))))), (201001, .row 53 (.agg (.pair (.int .i64) (.agg (.pair (.int .i64) (.agg (.pair (.int .i64) (.pair (.int .i64) (.int .i64)))))))))]⟩), (1000036, ⟨145, 8, [(0, (.val (.sl 33 (.agg (.pair (.int .i64) (.pair (.agg (.pair (.int .u16) .str)) (.pair (.int .i64) (.sl 35 (.agg (.pair (.int .i64) (.pair (.int .i64) (.int .i64)))))))))))), (3, (.ptr 2071 [])), (6, (.val (.int .i64))), (11, (.ptr 202005 [])), (12, (.ptr 203010 [])), (13, (.ptr 403010 [])), (14, (.val (.int .i64)))], [(2071, .box (.agg (.pair (.val (.int .i64)) (.pair (.rs 4005) (.pair (.val (.int .i64)) (.pair (.val .bool) (.pair (.val (.agg (.pair (.int .i64) (.pair (.int .i64) (.pair (.int .i64) (.int .i64)))))) (.pair (.val (.int .i64)) (.pair (.val (.int .i64)) (.pair (.val (.int .i64)) (.pair (.rs 201001) (.val .bool)))))))))))), (4005, .row 33 (.agg (.pair (.int .i64) (.pair (.agg (.pair (.int .u16) .str)) (.pair (.int .i64) (.sl 35 (.agg (.pair (.int .i64) (.pair (.int .i64) (.int .i64)))))))))), (201001, .row 53 (.agg (.pair (.int .i64) (.agg (.pair (.int .i64) (.agg (.pair (.int .i64) (.pair (.int .i64) (.int .i64))))))))), (202003, .map 3 3 (.int .i64) (.int .i64)), (202005, .box (.agg (.pair (.val (.arr 256 .bool)) (.pair (.val (.arr 256 .nilp)) (.mp 202003))))), (203007, .map 3 2 (.int .i64) (.int .i64)), (203008, .map 2 59 (.int .i64) (.sl 3 (.int .i64))), (203010, .box (.agg (.pair (.val (.int .i64)) (.pair (.val (.int .i64)) (.pair (.mp 203007) (.pair (.rs 402007) (.mp 203008))))))), (402007, .row 2 (.int .i64)), (403010, .box (.agg (.rs 602009))), (602009, .row 134 (.agg (.pair (.int .i64) (.pair (.int .i64) (.int .i64)))))]⟩), (56, ⟨145, 8, [(0, (.val (.sl 33 (.agg (.pair (.int .i64) (.pair (.agg (.pair (.int .u16) .str)) (.pair (.int .i64) (.sl 35 (.agg (.pair (.int .i64) (.pair (.int .i64) (.int .i64)))))))))))), (17, (.rs 603012)), (18, (.val .bool)), (99, (.val (.int .i64))), (100, (.val (.int .i64)))], [(603012, .row 53 (.agg (.pair (.int .i64) (.agg (.pair (.int .i64) (.agg (.pair (.int .i64) (.pair (.int .i64) (.int .i64)))))))))]⟩), (70, ⟨145, 8, [(17, (.rs 603012)), (18, (.val .bool)), (127, (.val (.int .i64))), (128, (.val (.int .i64)))], [(603012, .row 53 (.agg (.pair (.int .i64) (.agg (.pair (.int .i64) (.agg (.pair (.int .i64) (.pair (.int .i64) (.int .i64)))))))))]⟩)]⟩
noncomputable def T3 (n : Nat) : Tab := ⟨[e7 n], [e6o n, e8o n, e9o n, e10o n, e11o n, e11z n, e12o n, e13o n]⟩
noncomputable def e3 (n : Nat) : Entry := c3.entry Try.prog (T3 n) n
theorem ok3 (n : Nat) : FnOK Try.prog (e3 n) := c3.sound (.ocons (ok6o n) (.cons (ok7 n) (.ocons (ok8o n) (.ocons (ok9o n) (.ocons (ok10o n) (.ocons (ok11o n) (.ocons (ok11z n) (.ocons (ok12o n) (.ocons (ok13o n) .nil))))))))) n Try.func3 (by kernel_rfl) (by kernel_rfl)
noncomputable def f3 (n : Nat) (items : List (Int × ((Int × ByteArray) × (Int × List (Int × (Int × Int)))))) : Option (Bool) := c3.f Try.prog (T3 n) n items
noncomputable def f3_12 (n m : Nat) (items : List (Int × ((Int × ByteArray) × (Int × List (Int × (Int × Int)))))) (most : Int) (x40 : List (Int × ((Int × ByteArray) × (Int × List (Int × (Int × Int)))))) (x41 : Int) (x42 : Int) : Option (Bool) := c3.LL Try.prog (T3 n) m 12 (items, (), most, x40, x41, x42) ()
noncomputable def f3_1000012 (n m : Nat) (items : List (Int × ((Int × ByteArray) × (Int × List (Int × (Int × Int)))))) (most : Int) (x40 : List (Int × ((Int × ByteArray) × (Int × List (Int × (Int × Int)))))) (x41 : Int) (x42 : Int) (b2071a : Int) (b2071bba : Int) (b2071bbba : Bool) (b2071bbbba : (Int × (Int × (Int × Int)))) (b2071bbbbba : Int) (b2071bbbbbba : Int) (b2071bbbbbbba : Int) (b2071bbbbbbbbb : Bool) (l4005 : List (Int × ((Int × ByteArray) × (Int × List (Int × (Int × Int)))))) (l201001 : List (Int × (Int × (Int × (Int × Int))))) : Option (Bool) := c3.LL Try.prog (T3 n) m 1000012 (items, (), most, x40, x41, x42) ((b2071a, ((), (b2071bba, (b2071bbba, (b2071bbbba, (b2071bbbbba, (b2071bbbbbba, (b2071bbbbbbba, ((), b2071bbbbbbbbb))))))))), l4005, l201001, ())
noncomputable def f3_20 (n m : Nat) (items : List (Int × ((Int × ByteArray) × (Int × List (Int × (Int × Int)))))) (most : Int) (x40 : List (Int × ((Int × ByteArray) × (Int × List (Int × (Int × Int)))))) (x41 : Int) (x42 : Int) (x52 : List (Int × (Int × Int))) (x53 : Int) (x54 : Int) : Option (Bool) := c3.LL Try.prog (T3 n) m 20 (items, (), most, x40, x41, x42, x52, x53, x54) ()
noncomputable def f3_36 (n m : Nat) (items : List (Int × ((Int × ByteArray) × (Int × List (Int × (Int × Int)))))) (most : Int) (x14 : Int) (m2001 : List (Int × Int)) (b2003a : List Bool) (b2003ba : List Unit) (m3005 : List (Int × Int)) (m3006 : List (Int × List Int)) (b3008a : Int) (b3008ba : Int) (l202005 : List Int) (l402007 : List (Int × (Int × Int))) : Option (Bool) := c3.LL Try.prog (T3 n) m 36 (items, (), most, (), (), (), x14) (m2001, (b2003a, (b2003ba, ())), m3005, m3006, (b3008a, (b3008ba, ((), ((), ())))), l202005, (), l402007, ())
noncomputable def f3_1000020 (n m : Nat) (items : List (Int × ((Int × ByteArray) × (Int × List (Int × (Int × Int)))))) (most : Int) (x40 : List (Int × ((Int × ByteArray) × (Int × List (Int × (Int × Int)))))) (x41 : Int) (x42 : Int) (x52 : List (Int × (Int × Int))) (x53 : Int) (x54 : Int) (b2071a : Int) (b2071bba : Int) (b2071bbba : Bool) (b2071bbbba : (Int × (Int × (Int × Int)))) (b2071bbbbba : Int) (b2071bbbbbba : Int) (b2071bbbbbbba : Int) (b2071bbbbbbbbb : Bool) (l4005 : List (Int × ((Int × ByteArray) × (Int × List (Int × (Int × Int)))))) (l201001 : List (Int × (Int × (Int × (Int × Int))))) : Option (Bool) := c3.LL Try.prog (T3 n) m 1000020 (items, (), most, x40, x41, x42, x52, x53, x54) ((b2071a, ((), (b2071bba, (b2071bbba, (b2071bbbba, (b2071bbbbba, (b2071bbbbbba, (b2071bbbbbbba, ((), b2071bbbbbbbbb))))))))), l4005, l201001, ())
noncomputable def f3_1000036 (n m : Nat) (items : List (Int × ((Int × ByteArray) × (Int × List (Int × (Int × Int)))))) (most : Int) (x14 : Int) (b2071a : Int) (b2071bba : Int) (b2071bbba : Bool) (b2071bbbba : (Int × (Int × (Int × Int)))) (b2071bbbbba : Int) (b2071bbbbbba : Int) (b2071bbbbbbba : Int) (b2071bbbbbbbbb : Bool) (l4005 : List (Int × ((Int × ByteArray) × (Int × List (Int × (Int × Int)))))) (l201001 : List (Int × (Int × (Int × (Int × Int))))) (m202003 : List (Int × Int)) (b202005a : List Bool) (b202005ba : List Unit) (m203007 : List (Int × Int)) (m203008 : List (Int × List Int)) (b203010a : Int) (b203010ba : Int) (l402007 : List Int) (l602009 : List (Int × (Int × Int))) : Option (Bool) := c3.LL Try.prog (T3 n) m 1000036 (items, (), most, (), (), (), x14) ((b2071a, ((), (b2071bba, (b2071bbba, (b2071bbbba, (b2071bbbbba, (b2071bbbbbba, (b2071bbbbbbba, ((), b2071bbbbbbbbb))))))))), l4005, l201001, m202003, (b202005a, (b202005ba, ())), m203007, m203008, (b203010a, (b203010ba, ((), ((), ())))), l402007, (), l602009, ())
noncomputable def f3_56 (n m : Nat) (items : List (Int × ((Int × ByteArray) × (Int × List (Int × (Int × Int)))))) (panicked : Bool) (x99 : Int) (x100 : Int) (l603012 : List (Int × (Int × (Int × (Int × Int))))) : Option (Bool) := c3.LL Try.prog (T3 n) m 56 (items, (), panicked, x99, x100) (l603012, ())
noncomputable def f3_70 (n m : Nat) (panicked : Bool) (x127 : Int) (x128 : Int) (l603012 : List (Int × (Int × (Int × (Int × Int))))) : Option (Bool) := c3.LL Try.prog (T3 n) m 70 ((), panicked, x127, x128) (l603012, ())
theorem f3_12_zero (n : Nat) (items : List (Int × ((Int × ByteArray) × (Int × List (Int × (Int × Int)))))) (most : Int) (x40 : List (Int × ((Int × ByteArray) × (Int × List (Int × (Int × Int)))))) (x41 : Int) (x42 : Int) : f3_12 n 0 items most x40 x41 x42 = none := rfl
theorem f3_12_eq (n m : Nat) (items : List (Int × ((Int × ByteArray) × (Int × List (Int × (Int × Int)))))) (most : Int) (x40 : List (Int × ((Int × ByteArray) × (Int × List (Int × (Int × Int)))))) (x41 : Int) (x42 : Int) : f3_12 n (m + 1) items most x40 x41 x42 =
  bif decide (x42 < x41) then
   bif decide ((0 : Int) ≤ x42 ∧ x42 < ↑x40.length) then
    f3_20 n m items (Go.IntKind.i64.wrap (most + ↑(List.length (x40.getD x42.toNat ((0 : Int), ((0 : Int), ByteArray.empty), (0 : Int), [])).snd.snd.snd))) x40 x41 x42 ((x40.getD x42.toNat ((0 : Int), ((0 : Int), ByteArray.empty), (0 : Int), [])).snd.snd.snd) (↑(List.length (x40.getD x42.toNat ((0 : Int), ((0 : Int), ByteArray.empty), (0 : Int), [])).snd.snd.snd)) (0 : Int)
   else
    none
  else
   (f8o n).bind fun r1 =>
   (f9o n).bind fun r2 =>
   (f10o n).bind fun r3 =>
   f3_36 n m items most (0 : Int) r1.snd.fst r1.snd.snd.fst.fst r1.snd.snd.fst.snd.fst r2.snd.fst r2.snd.snd.fst r2.snd.snd.snd.fst.fst r2.snd.snd.snd.fst.snd.fst r2.snd.snd.snd.snd.fst r3.snd.snd.fst := by kernel_rfl
theorem f3_1000012_zero (n : Nat) (items : List (Int × ((Int × ByteArray) × (Int × List (Int × (Int × Int)))))) (most : Int) (x40 : List (Int × ((Int × ByteArray) × (Int × List (Int × (Int × Int)))))) (x41 : Int) (x42 : Int) (b2071a : Int) (b2071bba : Int) (b2071bbba : Bool) (b2071bbbba : (Int × (Int × (Int × Int)))) (b2071bbbbba : Int) (b2071bbbbbba : Int) (b2071bbbbbbba : Int) (b2071bbbbbbbbb : Bool) (l4005 : List (Int × ((Int × ByteArray) × (Int × List (Int × (Int × Int)))))) (l201001 : List (Int × (Int × (Int × (Int × Int))))) : f3_1000012 n 0 items most x40 x41 x42 b2071a b2071bba b2071bbba b2071bbbba b2071bbbbba b2071bbbbbba b2071bbbbbbba b2071bbbbbbbbb l4005 l201001 = none := rfl
theorem f3_1000012_eq (n m : Nat) (items : List (Int × ((Int × ByteArray) × (Int × List (Int × (Int × Int)))))) (most : Int) (x40 : List (Int × ((Int × ByteArray) × (Int × List (Int × (Int × Int)))))) (x41 : Int) (x42 : Int) (b2071a : Int) (b2071bba : Int) (b2071bbba : Bool) (b2071bbbba : (Int × (Int × (Int × Int)))) (b2071bbbbba : Int) (b2071bbbbbba : Int) (b2071bbbbbbba : Int) (b2071bbbbbbbbb : Bool) (l4005 : List (Int × ((Int × ByteArray) × (Int × List (Int × (Int × Int)))))) (l201001 : List (Int × (Int × (Int × (Int × Int))))) : f3_1000012 n (m + 1) items most x40 x41 x42 b2071a b2071bba b2071bbba b2071bbbba b2071bbbbba b2071bbbbbba b2071bbbbbbba b2071bbbbbbbbb l4005 l201001 =
  bif decide (x42 < x41) then
   bif decide ((0 : Int) ≤ x42 ∧ x42 < ↑x40.length) then
    f3_1000020 n m items (Go.IntKind.i64.wrap (most + ↑(List.length (x40.getD x42.toNat ((0 : Int), ((0 : Int), ByteArray.empty), (0 : Int), [])).snd.snd.snd))) x40 x41 x42 ((x40.getD x42.toNat ((0 : Int), ((0 : Int), ByteArray.empty), (0 : Int), [])).snd.snd.snd) (↑(List.length (x40.getD x42.toNat ((0 : Int), ((0 : Int), ByteArray.empty), (0 : Int), [])).snd.snd.snd)) (0 : Int) b2071a b2071bba b2071bbba b2071bbbba b2071bbbbba b2071bbbbbba b2071bbbbbbba b2071bbbbbbbbb l4005 l201001
   else
    none
  else
   (f8o n).bind fun r1 =>
   (f9o n).bind fun r2 =>
   (f10o n).bind fun r3 =>
   f3_1000036 n m items most (0 : Int) b2071a b2071bba b2071bbba b2071bbbba b2071bbbbba b2071bbbbbba b2071bbbbbbba b2071bbbbbbbbb l4005 l201001 r1.snd.fst r1.snd.snd.fst.fst r1.snd.snd.fst.snd.fst r2.snd.fst r2.snd.snd.fst r2.snd.snd.snd.fst.fst r2.snd.snd.snd.fst.snd.fst r2.snd.snd.snd.snd.fst r3.snd.snd.fst := by kernel_rfl
theorem f3_20_zero (n : Nat) (items : List (Int × ((Int × ByteArray) × (Int × List (Int × (Int × Int)))))) (most : Int) (x40 : List (Int × ((Int × ByteArray) × (Int × List (Int × (Int × Int)))))) (x41 : Int) (x42 : Int) (x52 : List (Int × (Int × Int))) (x53 : Int) (x54 : Int) : f3_20 n 0 items most x40 x41 x42 x52 x53 x54 = none := rfl
theorem f3_20_eq (n m : Nat) (items : List (Int × ((Int × ByteArray) × (Int × List (Int × (Int × Int)))))) (most : Int) (x40 : List (Int × ((Int × ByteArray) × (Int × List (Int × (Int × Int)))))) (x41 : Int) (x42 : Int) (x52 : List (Int × (Int × Int))) (x53 : Int) (x54 : Int) : f3_20 n (m + 1) items most x40 x41 x42 x52 x53 x54 =
  bif decide (x54 < x53) then
   bif decide ((0 : Int) ≤ x54 ∧ x54 < ↑x52.length) then
    bif (x52.getD x54.toNat ((0 : Int), (0 : Int), (0 : Int))).fst == (6 : Int) then
     some true
    else
     bif (x52.getD x54.toNat ((0 : Int), (0 : Int), (0 : Int))).fst == (7 : Int) then
      some true
     else
      f3_20 n m items most x40 x41 x42 x52 x53 (Go.IntKind.i64.wrap (x54 + (1 : Int)))
   else
    none
  else
   f3_12 n m items most x40 x41 (Go.IntKind.i64.wrap (x42 + (1 : Int))) := by kernel_rfl
theorem f3_36_zero (n : Nat) (items : List (Int × ((Int × ByteArray) × (Int × List (Int × (Int × Int)))))) (most : Int) (x14 : Int) (m2001 : List (Int × Int)) (b2003a : List Bool) (b2003ba : List Unit) (m3005 : List (Int × Int)) (m3006 : List (Int × List Int)) (b3008a : Int) (b3008ba : Int) (l202005 : List Int) (l402007 : List (Int × (Int × Int))) : f3_36 n 0 items most x14 m2001 b2003a b2003ba m3005 m3006 b3008a b3008ba l202005 l402007 = none := rfl
theorem f3_36_eq (n m : Nat) (items : List (Int × ((Int × ByteArray) × (Int × List (Int × (Int × Int)))))) (most : Int) (x14 : Int) (m2001 : List (Int × Int)) (b2003a : List Bool) (b2003ba : List Unit) (m3005 : List (Int × Int)) (m3006 : List (Int × List Int)) (b3008a : Int) (b3008ba : Int) (l202005 : List Int) (l402007 : List (Int × (Int × Int))) : f3_36 n (m + 1) items most x14 m2001 b2003a b2003ba m3005 m3006 b3008a b3008ba l202005 l402007 =
  (f11z n).bind fun r1 =>
  bif !r1.fst then
   none
  else
   none := by kernel_rfl
theorem f3_1000020_zero (n : Nat) (items : List (Int × ((Int × ByteArray) × (Int × List (Int × (Int × Int)))))) (most : Int) (x40 : List (Int × ((Int × ByteArray) × (Int × List (Int × (Int × Int)))))) (x41 : Int) (x42 : Int) (x52 : List (Int × (Int × Int))) (x53 : Int) (x54 : Int) (b2071a : Int) (b2071bba : Int) (b2071bbba : Bool) (b2071bbbba : (Int × (Int × (Int × Int)))) (b2071bbbbba : Int) (b2071bbbbbba : Int) (b2071bbbbbbba : Int) (b2071bbbbbbbbb : Bool) (l4005 : List (Int × ((Int × ByteArray) × (Int × List (Int × (Int × Int)))))) (l201001 : List (Int × (Int × (Int × (Int × Int))))) : f3_1000020 n 0 items most x40 x41 x42 x52 x53 x54 b2071a b2071bba b2071bbba b2071bbbba b2071bbbbba b2071bbbbbba b2071bbbbbbba b2071bbbbbbbbb l4005 l201001 = none := rfl
theorem f3_1000020_eq (n m : Nat) (items : List (Int × ((Int × ByteArray) × (Int × List (Int × (Int × Int)))))) (most : Int) (x40 : List (Int × ((Int × ByteArray) × (Int × List (Int × (Int × Int)))))) (x41 : Int) (x42 : Int) (x52 : List (Int × (Int × Int))) (x53 : Int) (x54 : Int) (b2071a : Int) (b2071bba : Int) (b2071bbba : Bool) (b2071bbbba : (Int × (Int × (Int × Int)))) (b2071bbbbba : Int) (b2071bbbbbba : Int) (b2071bbbbbbba : Int) (b2071bbbbbbbbb : Bool) (l4005 : List (Int × ((Int × ByteArray) × (Int × List (Int × (Int × Int)))))) (l201001 : List (Int × (Int × (Int × (Int × Int))))) : f3_1000020 n (m + 1) items most x40 x41 x42 x52 x53 x54 b2071a b2071bba b2071bbba b2071bbbba b2071bbbbba b2071bbbbbba b2071bbbbbbba b2071bbbbbbbbb l4005 l201001 =
  bif decide (x54 < x53) then
   bif decide ((0 : Int) ≤ x54 ∧ x54 < ↑x52.length) then
    bif (x52.getD x54.toNat ((0 : Int), (0 : Int), (0 : Int))).fst == (6 : Int) then
     some true
    else
     bif (x52.getD x54.toNat ((0 : Int), (0 : Int), (0 : Int))).fst == (7 : Int) then
      some true
     else
      f3_1000020 n m items most x40 x41 x42 x52 x53 (Go.IntKind.i64.wrap (x54 + (1 : Int))) b2071a b2071bba b2071bbba b2071bbbba b2071bbbbba b2071bbbbbba b2071bbbbbbba b2071bbbbbbbbb l4005 l201001
   else
    none
  else
   f3_1000012 n m items most x40 x41 (Go.IntKind.i64.wrap (x42 + (1 : Int))) b2071a b2071bba b2071bbba b2071bbbba b2071bbbbba b2071bbbbbba b2071bbbbbbba b2071bbbbbbbbb l4005 l201001 := by kernel_rfl
theorem f3_1000036_zero (n : Nat) (items : List (Int × ((Int × ByteArray) × (Int × List (Int × (Int × Int)))))) (most : Int) (x14 : Int) (b2071a : Int) (b2071bba : Int) (b2071bbba : Bool) (b2071bbbba : (Int × (Int × (Int × Int)))) (b2071bbbbba : Int) (b2071bbbbbba : Int) (b2071bbbbbbba : Int) (b2071bbbbbbbbb : Bool) (l4005 : List (Int × ((Int × ByteArray) × (Int × List (Int × (Int × Int)))))) (l201001 : List (Int × (Int × (Int × (Int × Int))))) (m202003 : List (Int × Int)) (b202005a : List Bool) (b202005ba : List Unit) (m203007 : List (Int × Int)) (m203008 : List (Int × List Int)) (b203010a : Int) (b203010ba : Int) (l402007 : List Int) (l602009 : List (Int × (Int × Int))) : f3_1000036 n 0 items most x14 b2071a b2071bba b2071bbba b2071bbbba b2071bbbbba b2071bbbbbba b2071bbbbbbba b2071bbbbbbbbb l4005 l201001 m202003 b202005a b202005ba m203007 m203008 b203010a b203010ba l402007 l602009 = none := rfl
theorem f3_1000036_eq (n m : Nat) (items : List (Int × ((Int × ByteArray) × (Int × List (Int × (Int × Int)))))) (most : Int) (x14 : Int) (b2071a : Int) (b2071bba : Int) (b2071bbba : Bool) (b2071bbbba : (Int × (Int × (Int × Int)))) (b2071bbbbba : Int) (b2071bbbbbba : Int) (b2071bbbbbbba : Int) (b2071bbbbbbbbb : Bool) (l4005 : List (Int × ((Int × ByteArray) × (Int × List (Int × (Int × Int)))))) (l201001 : List (Int × (Int × (Int × (Int × Int))))) (m202003 : List (Int × Int)) (b202005a : List Bool) (b202005ba : List Unit) (m203007 : List (Int × Int)) (m203008 : List (Int × List Int)) (b203010a : Int) (b203010ba : Int) (l402007 : List Int) (l602009 : List (Int × (Int × Int))) : f3_1000036 n (m + 1) items most x14 b2071a b2071bba b2071bbba b2071bbbba b2071bbbbba b2071bbbbbba b2071bbbbbbba b2071bbbbbbbbb l4005 l201001 m202003 b202005a b202005ba m203007 m203008 b203010a b203010ba l402007 l602009 =
  (f11o n b2071a b2071bba b2071bbba b2071bbbba b2071bbbbba b2071bbbbbba b2071bbbbbbba b2071bbbbbbbbb l4005 l201001).bind fun r1 =>
  bif !r1.fst then
   (f12o n r1.snd.fst.fst r1.snd.fst.snd.snd.fst r1.snd.fst.snd.snd.snd.fst r1.snd.fst.snd.snd.snd.snd.fst r1.snd.fst.snd.snd.snd.snd.snd.fst r1.snd.fst.snd.snd.snd.snd.snd.snd.fst r1.snd.fst.snd.snd.snd.snd.snd.snd.snd.fst r1.snd.fst.snd.snd.snd.snd.snd.snd.snd.snd.snd b202005a b202005ba m202003 b203010a b203010ba m203007 m203008 r1.snd.snd.1 r1.snd.snd.snd.1 l402007 l602009).bind fun r2 =>
   bif r2.fst.snd != (0 : Int) then
    some false
   else
    bif decide (x14 ≥ most) then
     some false
    else
     f3_1000036 n m items most (Go.IntKind.i64.wrap (x14 + (1 : Int))) r2.snd.fst.fst r2.snd.fst.snd.snd.fst r2.snd.fst.snd.snd.snd.fst r2.snd.fst.snd.snd.snd.snd.fst r2.snd.fst.snd.snd.snd.snd.snd.fst r2.snd.fst.snd.snd.snd.snd.snd.snd.fst r2.snd.fst.snd.snd.snd.snd.snd.snd.snd.fst r2.snd.fst.snd.snd.snd.snd.snd.snd.snd.snd.snd r2.snd.snd.snd.snd.snd.snd.snd.snd.fst r2.snd.snd.snd.snd.snd.snd.snd.snd.snd.fst r2.snd.snd.snd.fst r2.snd.snd.fst.fst r2.snd.snd.fst.snd.fst r2.snd.snd.snd.snd.snd.fst r2.snd.snd.snd.snd.snd.snd.fst r2.snd.snd.snd.snd.fst.fst r2.snd.snd.snd.snd.fst.snd.fst r2.snd.snd.snd.snd.snd.snd.snd.snd.snd.snd.fst r2.snd.snd.snd.snd.snd.snd.snd.snd.snd.snd.snd.fst
  else
   (f13o n r1.snd.fst.fst r1.snd.fst.snd.snd.fst r1.snd.fst.snd.snd.snd.fst r1.snd.fst.snd.snd.snd.snd.fst r1.snd.fst.snd.snd.snd.snd.snd.fst r1.snd.fst.snd.snd.snd.snd.snd.snd.fst r1.snd.fst.snd.snd.snd.snd.snd.snd.snd.fst r1.snd.fst.snd.snd.snd.snd.snd.snd.snd.snd.snd r1.snd.snd.1 r1.snd.snd.snd.1).bind fun r3 =>
   bif (↑(List.length r3.snd.snd.fst) : Int) != ↑items.length then
    some false
   else
    f3_56 n m items false (↑(List.length r3.snd.snd.fst)) (0 : Int) r3.snd.snd.fst := by kernel_rfl
theorem f3_56_zero (n : Nat) (items : List (Int × ((Int × ByteArray) × (Int × List (Int × (Int × Int)))))) (panicked : Bool) (x99 : Int) (x100 : Int) (l603012 : List (Int × (Int × (Int × (Int × Int))))) : f3_56 n 0 items panicked x99 x100 l603012 = none := rfl
theorem f3_56_eq (n m : Nat) (items : List (Int × ((Int × ByteArray) × (Int × List (Int × (Int × Int)))))) (panicked : Bool) (x99 : Int) (x100 : Int) (l603012 : List (Int × (Int × (Int × (Int × Int))))) : f3_56 n (m + 1) items panicked x99 x100 l603012 =
  bif decide (x100 < x99) then
   bif decide ((0 : Int) ≤ x100 ∧ x100 < ↑l603012.length) then
    bif decide ((0 : Int) ≤ x100 ∧ x100 < ↑items.length) then
     bif (l603012.getD x100.toNat ((0 : Int), (0 : Int), (0 : Int), (0 : Int), (0 : Int))).fst != (items.getD x100.toNat ((0 : Int), ((0 : Int), ByteArray.empty), (0 : Int), [])).fst then
      some false
     else
      bif panicked then
       f3_56 n m items true x99 (Go.IntKind.i64.wrap (x100 + (1 : Int))) l603012
      else
       bif decide ((0 : Int) ≤ x100 ∧ x100 < ↑l603012.length) then
        f3_56 n m items ((l603012.getD x100.toNat ((0 : Int), (0 : Int), (0 : Int), (0 : Int), (0 : Int))).snd.snd.fst == (2 : Int)) x99 (Go.IntKind.i64.wrap (x100 + (1 : Int))) l603012
       else
        none
    else
     none
   else
    none
  else
   f3_70 n m panicked ↑l603012.length (0 : Int) l603012 := by kernel_rfl
theorem f3_70_zero (n : Nat) (panicked : Bool) (x127 : Int) (x128 : Int) (l603012 : List (Int × (Int × (Int × (Int × Int))))) : f3_70 n 0 panicked x127 x128 l603012 = none := rfl
theorem f3_70_eq (n m : Nat) (panicked : Bool) (x127 : Int) (x128 : Int) (l603012 : List (Int × (Int × (Int × (Int × Int))))) : f3_70 n (m + 1) panicked x127 x128 l603012 =
  bif decide (x128 < x127) then
   bif panicked then
    bif decide ((0 : Int) ≤ x128 ∧ x128 < ↑l603012.length) then
     bif decide ((0 : Int) ≤ (0 : Int) ∧ (0 : Int) < ↑l603012.length) then
      bif !((l603012.getD x128.toNat ((0 : Int), (0 : Int), (0 : Int), (0 : Int), (0 : Int))).snd.fst == (l603012.getD (0 : Nat) ((0 : Int), (0 : Int), (0 : Int), (0 : Int), (0 : Int))).snd.fst && ((l603012.getD x128.toNat ((0 : Int), (0 : Int), (0 : Int), (0 : Int), (0 : Int))).snd.snd.fst == (l603012.getD (0 : Nat) ((0 : Int), (0 : Int), (0 : Int), (0 : Int), (0 : Int))).snd.snd.fst && ((l603012.getD x128.toNat ((0 : Int), (0 : Int), (0 : Int), (0 : Int), (0 : Int))).snd.snd.snd.fst == (l603012.getD (0 : Nat) ((0 : Int), (0 : Int), (0 : Int), (0 : Int), (0 : Int))).snd.snd.snd.fst && (l603012.getD x128.toNat ((0 : Int), (0 : Int), (0 : Int), (0 : Int), (0 : Int))).snd.snd.snd.snd == (l603012.getD (0 : Nat) ((0 : Int), (0 : Int), (0 : Int), (0 : Int), (0 : Int))).snd.snd.snd.snd))) then
       some false
      else
       f3_70 n m panicked x127 (Go.IntKind.i64.wrap (x128 + (1 : Int))) l603012
     else
      none
    else
     none
   else
    f3_70 n m panicked x127 (Go.IntKind.i64.wrap (x128 + (1 : Int))) l603012
  else
   some true := by kernel_rfl
theorem f3_eq (n : Nat) (items : List (Int × ((Int × ByteArray) × (Int × List (Int × (Int × Int)))))) : f3 n items =
  (f6o n (1 : Int) items).bind fun r1 =>
  Sum.elim (fun p2 =>
   (f7 n).bind fun r3 =>
   bif !r3 then
    (f7 n).bind fun r4 =>
    bif r4 then
     some true
    else
     some false
   else
    bif p2.fst.snd.snd != (0 : Int) then
     (f7 n).bind fun r5 =>
     bif r5 then
      some true
     else
      some false
    else
     f3_12 n n items ↑items.length items ↑items.length (0 : Int)) (fun p2 =>
   (f7 n).bind fun r6 =>
   bif !r6 then
    (f7 n).bind fun r7 =>
    bif r7 then
     some false
    else
     some false
   else
    bif p2.fst.snd.snd != (0 : Int) then
     (f7 n).bind fun r8 =>
     bif r8 then
      some false
     else
      some false
    else
     f3_1000012 n n items ↑items.length items ↑items.length (0 : Int) p2.snd.fst.fst p2.snd.fst.snd.snd.fst p2.snd.fst.snd.snd.snd.fst p2.snd.fst.snd.snd.snd.snd.fst p2.snd.fst.snd.snd.snd.snd.snd.fst p2.snd.fst.snd.snd.snd.snd.snd.snd.fst p2.snd.fst.snd.snd.snd.snd.snd.snd.snd.fst p2.snd.fst.snd.snd.snd.snd.snd.snd.snd.snd.snd p2.snd.snd.fst p2.snd.snd.snd.fst) r1 := by kernel_rfl
end Go.Proofs.Ytbmdklndjlmogaa
