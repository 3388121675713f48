/- What functions compute: printed, and checked by the kernel. -/
import Derived.Test.YtbmdklndjlmogaaGb
namespace Go.Proofs.Ytbmdklndjlmogaa
open Go.Rf
/- (*convoy/load.Load).Step -/
noncomputable def c12o : OCfg := ⟨12, Try.f12, ⟨110, 7, [(0, (.ptr 1 [])), (1, (.ptr 2 [])), (2, (.ptr 4 [])), (3, (.ptr 7 []))], [(1, .box (.agg (.pair (.val (.int .i64)) (.pair (.rs 100001) (.pair (.val (.int .i64)) (.pair (.val .bool) (.pair (.val (.agg (.pair (.int .i64) (.pair (.int .i64) (.pair (.int .i64) (.int .i64)))))) (.pair (.val (.int .i64)) (.pair (.val (.int .i64)) (.pair (.val (.int .i64)) (.pair (.rs 100002) (.val .bool)))))))))))), (2, .box (.agg (.pair (.val (.arr 256 .bool)) (.pair (.val (.arr 256 .nilp)) (.mp 3))))), (3, .map 3 3 (.int .i64) (.int .i64)), (4, .box (.agg (.pair (.val (.int .i64)) (.pair (.val (.int .i64)) (.pair (.mp 5) (.pair (.rs 100003) (.mp 6))))))), (5, .map 3 2 (.int .i64) (.int .i64)), (6, .map 2 59 (.int .i64) (.sl 3 (.int .i64))), (7, .box (.agg (.rs 100004))), (100001, .row 33 (.agg (.pair (.int .i64) (.pair (.agg (.pair (.int .u16) .str)) (.pair (.int .i64) (.sl 35 (.agg (.pair (.int .i64) (.pair (.int .i64) (.int .i64)))))))))), (100002, .row 53 (.agg (.pair (.int .i64) (.agg (.pair (.int .i64) (.agg (.pair (.int .i64) (.pair (.int .i64) (.int .i64))))))))), (100003, .row 2 (.int .i64)), (100004, .row 134 (.agg (.pair (.int .i64) (.pair (.int .i64) (.int .i64)))))]⟩, [⟨2, 2, [(0, (.val (.agg (.pair (.int .i64) (.pair (.int .i64) (.pair (.int .i64) (.int .i64))))))), (1, (.val (.int .i64)))], [(1, .box (.agg (.pair (.val (.int .i64)) (.pair (.rs 100001) (.pair (.val (.int .i64)) (.pair (.val .bool) (.pair (.val (.agg (.pair (.int .i64) (.pair (.int .i64) (.pair (.int .i64) (.int .i64)))))) (.pair (.val (.int .i64)) (.pair (.val (.int .i64)) (.pair (.val (.int .i64)) (.pair (.rs 100002) (.val .bool)))))))))))), (2, .box (.agg (.pair (.val (.arr 256 .bool)) (.pair (.val (.arr 256 .nilp)) (.mp 3))))), (3, .map 3 3 (.int .i64) (.int .i64)), (4, .box (.agg (.pair (.val (.int .i64)) (.pair (.val (.int .i64)) (.pair (.mp 5) (.pair (.rs 100003) (.mp 6))))))), (5, .map 3 2 (.int .i64) (.int .i64)), (6, .map 2 59 (.int .i64) (.sl 3 (.int .i64))), (7, .box (.agg (.rs 100004))), (100001, .row 33 (.agg (.pair (.int .i64) (.pair (.agg (.pair (.int .u16) .str)) (.pair (.int .i64) (.sl 35 (.agg (.pair (.int .i64) (.pair (.int .i64) (.int .i64)))))))))), (100002, .row 53 (.agg (.pair (.int .i64) (.agg (.pair (.int .i64) (.agg (.pair (.int .i64) (.pair (.int .i64) (.int .i64))))))))), (100003, .row 2 (.int .i64)), (100004, .row 134 (.agg (.pair (.int .i64) (.pair (.int .i64) (.int .i64)))))]⟩], [], []⟩
noncomputable def T12o (n : Nat) : Tab := ⟨[e31 n], [e29o n, e30o n]⟩
noncomputable def e12o (n : Nat) : OE := c12o.entry Try.prog (T12o n) n
theorem ok12o (n : Nat) : OOK Try.prog (e12o n) := c12o.sound (.ocons (ok29o n) (.ocons (ok30o n) (.cons (ok31 n) .nil))) n Try.func12 (by kernel_rfl) (by kernel_rfl)
noncomputable def f12o (n : Nat) (b1a : Int) (b1bba : Int) (b1bbba : Bool) (b1bbbba : (Int × (Int × (Int × Int)))) (b1bbbbba : Int) (b1bbbbbba : Int) (b1bbbbbbba : Int) (b1bbbbbbbbb : Bool) (b2a : List Bool) (b2ba : List Unit) (m3 : List (Int × Int)) (b4a : Int) (b4ba : Int) (m5 : List (Int × Int)) (m6 : List (Int × List Int)) (l100001 : List (Int × ((Int × ByteArray) × (Int × List (Int × (Int × Int)))))) (l100002 : List (Int × (Int × (Int × (Int × Int))))) (l100003 : List Int) (l100004 : List (Int × (Int × Int))) : Option ((((Int × (Int × (Int × Int))) × Int) × ((Int × (Unit × (Int × (Bool × ((Int × (Int × (Int × Int))) × (Int × (Int × (Int × (Unit × Bool))))))))) × ((List Bool × (List Unit × Unit)) × (List (Int × Int) × ((Int × (Int × (Unit × (Unit × Unit)))) × (List (Int × Int) × (List (Int × List Int) × (Unit × (List (Int × ((Int × ByteArray) × (Int × List (Int × (Int × Int))))) × (List (Int × (Int × (Int × (Int × Int)))) × (List Int × (List (Int × (Int × Int)) × Unit))))))))))))) := c12o.f Try.prog (T12o n) n ((), (), (), ()) ((b1a, ((), (b1bba, (b1bbba, (b1bbbba, (b1bbbbba, (b1bbbbbba, (b1bbbbbbba, ((), b1bbbbbbbbb))))))))), (b2a, (b2ba, ())), m3, (b4a, (b4ba, ((), ((), ())))), m5, m6, (), l100001, l100002, l100003, l100004, ())
theorem f12o_eq (n : Nat) (b1a : Int) (b1bba : Int) (b1bbba : Bool) (b1bbbba : (Int × (Int × (Int × Int)))) (b1bbbbba : Int) (b1bbbbbba : Int) (b1bbbbbbba : Int) (b1bbbbbbbbb : Bool) (b2a : List Bool) (b2ba : List Unit) (m3 : List (Int × Int)) (b4a : Int) (b4ba : Int) (m5 : List (Int × Int)) (m6 : List (Int × List Int)) (l100001 : List (Int × ((Int × ByteArray) × (Int × List (Int × (Int × Int)))))) (l100002 : List (Int × (Int × (Int × (Int × Int))))) (l100003 : List Int) (l100004 : List (Int × (Int × Int))) : f12o n b1a b1bba b1bbba b1bbbba b1bbbbba b1bbbbbba b1bbbbbbba b1bbbbbbbbb b2a b2ba m3 b4a b4ba m5 m6 l100001 l100002 l100003 l100004 =
  bif b1bbbbbbbbb then
   some (((((0 : Int), (0 : Int), (0 : Int), (0 : Int)), (142 : Int)), ((b1a, ((), (b1bba, (b1bbba, (b1bbbba, (b1bbbbba, (b1bbbbbba, (b1bbbbbbba, ((), b1bbbbbbbbb))))))))), (b2a, (b2ba, ())), m3, (b4a, (b4ba, ((), ((), ())))), m5, m6, (), l100001, l100002, l100003, l100004, ())))
  else
   bif b1bbbbba != (0 : Int) then
    some (((((0 : Int), (0 : Int), (0 : Int), (0 : Int)), (141 : Int)), ((b1a, ((), (b1bba, (b1bbba, (b1bbbba, (b1bbbbba, (b1bbbbbba, (b1bbbbbbba, ((), b1bbbbbbbbb))))))))), (b2a, (b2ba, ())), m3, (b4a, (b4ba, ((), ((), ())))), m5, m6, (), l100001, l100002, l100003, l100004, ())))
   else
    bif decide ((0 : Int) ≤ b1bba ∧ b1bba < ↑l100001.length) then
     (f29o n (l100001.getD b1bba.toNat ((0 : Int), ((0 : Int), ByteArray.empty), (0 : Int), [])).snd.snd.fst l100004).bind fun r1 =>
     bif !b1bbba then
      bif r1.fst then
       (f30o n ((0 : Int), (5 : Int), (0 : Int), (l100001.getD b1bba.toNat ((0 : Int), ((0 : Int), ByteArray.empty), (0 : Int), [])).fst) (4 : Int) b1a b1bba b1bbba b1bbbba b1bbbbba b1bbbbbba b1bbbbbbba b1bbbbbbbbb l100001 l100002).bind fun r2 =>
       some (((r2.fst, (0 : Int)), ((r2.snd.fst.fst, ((), (r2.snd.fst.snd.snd.fst, (r2.snd.fst.snd.snd.snd.fst, (r2.snd.fst.snd.snd.snd.snd.fst, (r2.snd.fst.snd.snd.snd.snd.snd.fst, (r2.snd.fst.snd.snd.snd.snd.snd.snd.fst, (r2.snd.fst.snd.snd.snd.snd.snd.snd.snd.fst, ((), r2.snd.fst.snd.snd.snd.snd.snd.snd.snd.snd.snd))))))))), (b2a, (b2ba, ())), m3, (b4a, (b4ba, ((), ((), ())))), m5, m6, (), r2.snd.snd.fst, r2.snd.snd.snd.fst, l100003, r1.snd.snd.fst, ())))
      else
       (f31 n (l100001.getD b1bba.toNat ((0 : Int), ((0 : Int), ByteArray.empty), (0 : Int), [])).snd.snd.2 b1bbbba ((l100001.getD b1bba.toNat ((0 : Int), ((0 : Int), ByteArray.empty), (0 : Int), [])).snd.fst, (l100001.getD b1bba.toNat ((0 : Int), ((0 : Int), ByteArray.empty), (0 : Int), [])).fst, r1.fst)).bind fun r3 =>
       bif r3.snd.snd.snd != (0 : Int) then
        some (((((0 : Int), (0 : Int), (0 : Int), (0 : Int)), r3.snd.snd.snd), ((b1a, ((), (b1bba, (b1bbba, (b1bbbba, (b1bbbbba, (b1bbbbbba, (b1bbbbbbba, ((), b1bbbbbbbbb))))))))), (b2a, (b2ba, ())), m3, (b4a, (b4ba, ((), ((), ())))), m5, m6, (), l100001, l100002, l100003, r1.snd.snd.fst, ())))
       else
        bif r3.snd.snd.fst then
         (f30o n r3.snd.fst (5 : Int) b1a b1bba b1bbba b1bbbba b1bbbbba b1bbbbbba b1bbbbbbba b1bbbbbbbbb l100001 l100002).bind fun r4 =>
         some (((r4.fst, (0 : Int)), ((r4.snd.fst.fst, ((), (r4.snd.fst.snd.snd.fst, (r4.snd.fst.snd.snd.snd.fst, (r4.snd.fst.snd.snd.snd.snd.fst, (r4.snd.fst.snd.snd.snd.snd.snd.fst, (r4.snd.fst.snd.snd.snd.snd.snd.snd.fst, (r4.snd.fst.snd.snd.snd.snd.snd.snd.snd.fst, ((), r4.snd.fst.snd.snd.snd.snd.snd.snd.snd.snd.snd))))))))), (b2a, (b2ba, ())), m3, (b4a, (b4ba, ((), ((), ())))), m5, m6, (), r4.snd.snd.fst, r4.snd.snd.snd.fst, l100003, r1.snd.snd.fst, ())))
        else
         bif r3.fst.snd.snd.fst != (0 : Int) then
          none
         else
          some (((((1 : Int), (l100001.getD b1bba.toNat ((0 : Int), ((0 : Int), ByteArray.empty), (0 : Int), [])).fst, (0 : Int), (0 : Int)), (0 : Int)), ((b1a, ((), (b1bba, (true, (r3.fst, (b1bbbbba, (b1bbbbbba, (b1bbbbbbba, ((), b1bbbbbbbbb))))))))), (b2a, (b2ba, ())), m3, (b4a, (b4ba, ((), ((), ())))), m5, m6, (), l100001, l100002, l100003, r1.snd.snd.fst, ())))
     else
      (f31 n (l100001.getD b1bba.toNat ((0 : Int), ((0 : Int), ByteArray.empty), (0 : Int), [])).snd.snd.2 b1bbbba ((l100001.getD b1bba.toNat ((0 : Int), ((0 : Int), ByteArray.empty), (0 : Int), [])).snd.fst, (l100001.getD b1bba.toNat ((0 : Int), ((0 : Int), ByteArray.empty), (0 : Int), [])).fst, r1.fst)).bind fun r5 =>
      bif r5.snd.snd.snd != (0 : Int) then
       some (((((0 : Int), (0 : Int), (0 : Int), (0 : Int)), r5.snd.snd.snd), ((b1a, ((), (b1bba, (b1bbba, (b1bbbba, (b1bbbbba, (b1bbbbbba, (b1bbbbbbba, ((), b1bbbbbbbbb))))))))), (b2a, (b2ba, ())), m3, (b4a, (b4ba, ((), ((), ())))), m5, m6, (), l100001, l100002, l100003, r1.snd.snd.fst, ())))
      else
       bif r5.snd.snd.fst then
        (f30o n r5.snd.fst (5 : Int) b1a b1bba b1bbba b1bbbba b1bbbbba b1bbbbbba b1bbbbbbba b1bbbbbbbbb l100001 l100002).bind fun r6 =>
        some (((r6.fst, (0 : Int)), ((r6.snd.fst.fst, ((), (r6.snd.fst.snd.snd.fst, (r6.snd.fst.snd.snd.snd.fst, (r6.snd.fst.snd.snd.snd.snd.fst, (r6.snd.fst.snd.snd.snd.snd.snd.fst, (r6.snd.fst.snd.snd.snd.snd.snd.snd.fst, (r6.snd.fst.snd.snd.snd.snd.snd.snd.snd.fst, ((), r6.snd.fst.snd.snd.snd.snd.snd.snd.snd.snd.snd))))))))), (b2a, (b2ba, ())), m3, (b4a, (b4ba, ((), ((), ())))), m5, m6, (), r6.snd.snd.fst, r6.snd.snd.snd.fst, l100003, r1.snd.snd.fst, ())))
       else
        bif r5.fst.snd.snd.fst != (0 : Int) then
         none
        else
         some (((((1 : Int), (l100001.getD b1bba.toNat ((0 : Int), ((0 : Int), ByteArray.empty), (0 : Int), [])).fst, (0 : Int), (0 : Int)), (0 : Int)), ((b1a, ((), (b1bba, (true, (r5.fst, (b1bbbbba, (b1bbbbbba, (b1bbbbbbba, ((), b1bbbbbbbbb))))))))), (b2a, (b2ba, ())), m3, (b4a, (b4ba, ((), ((), ())))), m5, m6, (), l100001, l100002, l100003, r1.snd.snd.fst, ())))
    else
     none := by kernel_rfl
end Go.Proofs.Ytbmdklndjlmogaa
