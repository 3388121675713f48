/- The law ClientNil: printed, and checked by the kernel. -/
import Derived.Test.YthpcpofcadpijaaDoorGd
namespace Go.Proofs.YthpcpofcadpijaaDoor
open Go.Rf
/- convoy/convoylaw21.ClientNil -/
noncomputable def c5 : Cfg := ⟨5, Tryd.f5, [(.agg (.pair (.int .i64) (.pair (.int .i64) (.pair (.int .i64) (.agg (.pair (.int .i64) (.pair (.int .i64) (.pair (.agg (.pair (.int .i64) (.agg (.pair (.int .i64) (.pair (.int .i64) (.int .i64)))))) (.int .i64)))))))))], [.bool], 7, [], []⟩
noncomputable def T5 (n : Nat) : Tab := ⟨[e13z n, e16z n, e8 n, e17z n, e14z n, e18z n, e19z n, e20z n, e21z n, e15z n, e22z n], [e13o n]⟩
noncomputable def e5 (n : Nat) : Entry := c5.entry Tryd.prog (T5 n) n
theorem ok5 {W0 : World} (n : Nat) : FnOK Tryd.prog W0 (e5 n) := c5.sound (.cons (ok13z n) (.ocons (ok13o n) (.cons (ok16z n) (.cons (ok8 n) (.cons (ok17z n) (.cons (ok14z n) (.cons (ok18z n) (.cons (ok19z n) (.cons (ok20z n) (.cons (ok21z n) (.cons (ok15z n) (.cons (ok22z n) .nil)))))))))))) n Tryd.func5 (by kernel_rfl) (by kernel_rfl)
noncomputable def f5 (n : Nat) (x : (Int × (Int × (Int × (Int × (Int × ((Int × (Int × (Int × Int))) × Int))))))) : Option (Bool) := c5.f Tryd.prog (T5 n) n x
theorem f5_eq (n : Nat) (x : (Int × (Int × (Int × (Int × (Int × ((Int × (Int × (Int × Int))) × Int))))))) : f5 n x =
  (f13z n ()).bind fun r1 =>
  (f16z n () x.snd.fst).bind fun r2 =>
  (f8 n).bind fun r3 =>
  bif r3 then
   bif !r1.snd.snd then
    (f17z n ()).bind fun r4 =>
    bif !r4 then
     (f14z n ()).bind fun r5 =>
     bif r5 == (0 : Int) then
      (f18z n () x.snd.fst).bind fun r6 =>
      bif r6 == (1 : Int) then
       (f19z n () x.snd.snd.snd).bind fun r7 =>
       bif r7 == (1 : Int) then
        (f20z n () x.snd.fst x.snd.snd.fst).bind fun r8 =>
        bif r8 == (1 : Int) then
         (f21z n () x.snd.fst x.snd.snd.fst x.snd.snd.snd).bind fun r9 =>
         bif !r9 then
          bif r2.snd.snd == (1 : Int) then
           (f15z n ()).bind fun r10 =>
           bif ↑(List.length r10) == (0 : Int) then
            (f22z n ()).bind fun r11 =>
            some true
           else
            some false
          else
           some false
         else
          some false
        else
         some false
       else
        some false
      else
       some false
     else
      some false
    else
     some false
   else
    some false
  else
   some false := by kernel_rfl
end Go.Proofs.YthpcpofcadpijaaDoor
