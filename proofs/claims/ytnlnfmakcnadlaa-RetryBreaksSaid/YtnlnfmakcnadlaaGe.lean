/- What functions compute: printed, and checked by the kernel. -/
import Derived.Test.YtnlnfmakcnadlaaGb
namespace Go.Proofs.Ytnlnfmakcnadlaa
open Go.Rf
/- (*convoy/retry.Breaker).may -/
noncomputable def c88z : Cfg := ⟨88, Try.f88, [.nilp, (.int .i64)], [(.int .i64)], 5, [], []⟩
noncomputable def T88z (n : Nat) : Tab := ⟨[e27 n], []⟩
noncomputable def e88z (n : Nat) : Entry := c88z.entry Try.prog (T88z n) n
theorem ok88z (n : Nat) : FnOK Try.prog (e88z n) := c88z.sound (.cons (ok27 n) .nil) n Try.func88 (by kernel_rfl) (by kernel_rfl)
noncomputable def f88z (n : Nat) (b : Unit) (now : Int) : Option (Int) := c88z.f Try.prog (T88z n) n (b, now)
theorem f88z_eq (n : Nat) (b : Unit) (now : Int) : f88z n b now =
  some (1 : Int) := by kernel_rfl
/- (*convoy/retry.Breaker).Ask -/
noncomputable def c66z : Cfg := ⟨66, Try.f66, [.nilp, (.int .i64)], [.bool, (.int .i64)], 5, [], []⟩
noncomputable def T66z (n : Nat) : Tab := ⟨[e88z n], []⟩
noncomputable def e66z (n : Nat) : Entry := c66z.entry Try.prog (T66z n) n
theorem ok66z (n : Nat) : FnOK Try.prog (e66z n) := c66z.sound (.cons (ok88z n) .nil) n Try.func66 (by kernel_rfl) (by kernel_rfl)
noncomputable def f66z (n : Nat) (b : Unit) (now : Int) : Option (Bool × Int) := c66z.f Try.prog (T66z n) n (b, now)
theorem f66z_eq (n : Nat) (b : Unit) (now : Int) : f66z n b now =
  (f88z n () now).bind fun r1 =>
  bif r1 != (0 : Int) then
   some (false, r1)
  else
   none := by kernel_rfl
/- (*convoy/retry.Breaker).Until -/
noncomputable def c67z : Cfg := ⟨67, Try.f67, [.nilp], [(.int .i64), .bool], 5, [], []⟩
noncomputable def T67z (_ : Nat) : Tab := ⟨[], []⟩
noncomputable def e67z (n : Nat) : Entry := c67z.entry Try.prog (T67z n) n
theorem ok67z (n : Nat) : FnOK Try.prog (e67z n) := c67z.sound .nil n Try.func67 (by kernel_rfl) (by kernel_rfl)
noncomputable def f67z (n : Nat) (b : Unit) : Option (Int × Bool) := c67z.f Try.prog (T67z n) n b
theorem f67z_eq (n : Nat) (b : Unit) : f67z n b =
  some ((0 : Int), false) := by kernel_rfl
/- (*convoy/retry.Breaker).Done -/
noncomputable def c68z : Cfg := ⟨68, Try.f68, [.nilp, (.int .i64), .bool], [(.int .i64)], 6, [], []⟩
noncomputable def T68z (n : Nat) : Tab := ⟨[e88z n], []⟩
noncomputable def e68z (n : Nat) : Entry := c68z.entry Try.prog (T68z n) n
theorem ok68z (n : Nat) : FnOK Try.prog (e68z n) := c68z.sound (.cons (ok88z n) .nil) n Try.func68 (by kernel_rfl) (by kernel_rfl)
noncomputable def f68z (n : Nat) (b : Unit) (now : Int) (fine : Bool) : Option (Int) := c68z.f Try.prog (T68z n) n (b, now, fine)
theorem f68z_eq (n : Nat) (b : Unit) (now : Int) (fine : Bool) : f68z n b now fine =
  (f88z n () now).bind fun r1 =>
  bif r1 != (0 : Int) then
   some r1
  else
   none := by kernel_rfl
/- (*convoy/retry.Breaker).State -/
noncomputable def c69z : Cfg := ⟨69, Try.f69, [.nilp, (.int .i64)], [(.int .i64)], 4, [], []⟩
noncomputable def T69z (n : Nat) : Tab := ⟨[e27 n], []⟩
noncomputable def e69z (n : Nat) : Entry := c69z.entry Try.prog (T69z n) n
theorem ok69z (n : Nat) : FnOK Try.prog (e69z n) := c69z.sound (.cons (ok27 n) .nil) n Try.func69 (by kernel_rfl) (by kernel_rfl)
noncomputable def f69z (n : Nat) (b : Unit) (now : Int) : Option (Int) := c69z.f Try.prog (T69z n) n (b, now)
theorem f69z_eq (n : Nat) (b : Unit) (now : Int) : f69z n b now =
  some (0 : Int) := by kernel_rfl
/- (*convoy/retry.Breaker).Clone -/
noncomputable def c70z : Cfg := ⟨70, Try.f70, [.nilp], [.nilp], 4, [], []⟩
noncomputable def T70z (_ : Nat) : Tab := ⟨[], []⟩
noncomputable def e70z (n : Nat) : Entry := c70z.entry Try.prog (T70z n) n
theorem ok70z (n : Nat) : FnOK Try.prog (e70z n) := c70z.sound .nil n Try.func70 (by kernel_rfl) (by kernel_rfl)
noncomputable def f70z (n : Nat) (b : Unit) : Option (Unit) := c70z.f Try.prog (T70z n) n b
theorem f70z_eq (n : Nat) (b : Unit) : f70z n b =
  some () := by kernel_rfl
/- convoy/convoylaw17.RetryNil -/
noncomputable def c14 : Cfg := ⟨14, Try.f14, [(.agg (.pair (.int .i64) (.int .i64)))], [.bool], 6, [], []⟩
noncomputable def T14 (n : Nat) : Tab := ⟨[e66z n, e67z n, e41 n, e68z n, e69z n, e70z n], []⟩
noncomputable def e14 (n : Nat) : Entry := c14.entry Try.prog (T14 n) n
theorem ok14 (n : Nat) : FnOK Try.prog (e14 n) := c14.sound (.cons (ok66z n) (.cons (ok67z n) (.cons (ok41 n) (.cons (ok68z n) (.cons (ok69z n) (.cons (ok70z n) .nil)))))) n Try.func14 (by kernel_rfl) (by kernel_rfl)
noncomputable def f14 (n : Nat) (x : (Int × Int)) : Option (Bool) := c14.f Try.prog (T14 n) n x
theorem f14_eq (n : Nat) (x : (Int × Int)) : f14 n x =
  (f66z n () x.snd).bind fun r1 =>
  (f67z n ()).bind fun r2 =>
  (f41 n).bind fun r3 =>
  bif r3 then
   bif !r1.fst then
    bif r1.snd == (1 : Int) then
     (f68z n () x.snd true).bind fun r4 =>
     bif r4 == (1 : Int) then
      (f69z n () x.snd).bind fun r5 =>
      bif r5 == (0 : Int) then
       bif !r2.snd then
        (f70z n ()).bind fun r6 =>
        some true
       else
        some false
      else
       some false
     else
      some false
    else
     some false
   else
    some false
  else
   some false := by kernel_rfl
end Go.Proofs.Ytnlnfmakcnadlaa
