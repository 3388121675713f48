/- What functions compute: printed, and checked by the kernel. -/
import Derived.Test.YtnlnfmakcnadlaaGe
namespace Go.Proofs.Ytnlnfmakcnadlaa
open Go.Rf
/- (*convoy/retry.Breaker).may -/
noncomputable def c88o : OCfg := ⟨88, Try.f88, ⟨23, 5, [(0, (.ptr 1 [])), (1, (.val (.int .i64)))], [(1, .box (.val (.agg (.pair (.int .i64) (.pair (.int .i64) (.pair (.int .i64) (.pair (.int .i64) (.pair (.int .i64) (.int .i64)))))))))]⟩, [⟨1, 2, [(0, (.val (.int .i64)))], [(1, .box (.val (.agg (.pair (.int .i64) (.pair (.int .i64) (.pair (.int .i64) (.pair (.int .i64) (.pair (.int .i64) (.int .i64)))))))))]⟩], [], []⟩
noncomputable def T88o (n : Nat) : Tab := ⟨[e27 n], []⟩
noncomputable def e88o (n : Nat) : OE := c88o.entry Try.prog (T88o n) n
theorem ok88o (n : Nat) : OOK Try.prog (e88o n) := c88o.sound (.cons (ok27 n) .nil) n Try.func88 (by kernel_rfl) (by kernel_rfl)
noncomputable def f88o (n : Nat) (now : Int) (b1 : (Int × (Int × (Int × (Int × (Int × Int)))))) : Option ((Int × ((Int × (Int × (Int × (Int × (Int × Int))))) × Unit))) := c88o.f Try.prog (T88o n) n ((), now) (b1, ())
theorem f88o_eq (n : Nat) (now : Int) (b1 : (Int × (Int × (Int × (Int × (Int × Int)))))) : f88o n now b1 =
  (f27 n now).bind fun r1 =>
  bif !r1 then
   some (((10 : Int), (b1, ())))
  else
   bif decide (now < b1.snd.snd.snd.snd.snd) then
    some (((101 : Int), (b1, ())))
   else
    some (((0 : Int), ((b1.fst, b1.snd.fst, b1.snd.snd.fst, b1.snd.snd.snd.fst, b1.snd.snd.snd.snd.fst, now), ()))) := by kernel_rfl
/- (*convoy/retry.Breaker).Ask -/
noncomputable def c66o : OCfg := ⟨66, Try.f66, ⟨30, 5, [(0, (.ptr 1 [])), (1, (.val (.int .i64)))], [(1, .box (.val (.agg (.pair (.int .i64) (.pair (.int .i64) (.pair (.int .i64) (.pair (.int .i64) (.pair (.int .i64) (.int .i64)))))))))]⟩, [⟨2, 2, [(0, (.val .bool)), (1, (.val (.int .i64)))], [(1, .box (.val (.agg (.pair (.int .i64) (.pair (.int .i64) (.pair (.int .i64) (.pair (.int .i64) (.pair (.int .i64) (.int .i64)))))))))]⟩], [], []⟩
noncomputable def T66o (n : Nat) : Tab := ⟨[e88z n], [e88o n]⟩
noncomputable def e66o (n : Nat) : OE := c66o.entry Try.prog (T66o n) n
theorem ok66o (n : Nat) : OOK Try.prog (e66o n) := c66o.sound (.cons (ok88z n) (.ocons (ok88o n) .nil)) n Try.func66 (by kernel_rfl) (by kernel_rfl)
noncomputable def f66o (n : Nat) (now : Int) (b1 : (Int × (Int × (Int × (Int × (Int × Int)))))) : Option (((Bool × Int) × ((Int × (Int × (Int × (Int × (Int × Int))))) × Unit))) := c66o.f Try.prog (T66o n) n ((), now) (b1, ())
theorem f66o_eq (n : Nat) (now : Int) (b1 : (Int × (Int × (Int × (Int × (Int × Int)))))) : f66o n now b1 =
  (f88o n now b1).bind fun r1 =>
  bif r1.fst != (0 : Int) then
   some (((false, r1.fst), (r1.snd.fst, ())))
  else
   bif r1.snd.fst.snd.snd.fst == (1 : Int) then
    some (((true, (0 : Int)), (r1.snd.fst, ())))
   else
    bif r1.snd.fst.snd.snd.fst == (3 : Int) then
     some (((false, (0 : Int)), (r1.snd.fst, ())))
    else
     bif decide (now < r1.snd.fst.snd.snd.snd.snd.fst) then
      some (((false, (0 : Int)), (r1.snd.fst, ())))
     else
      some (((true, (0 : Int)), ((r1.snd.fst.fst, r1.snd.fst.snd.fst, (3 : Int), r1.snd.fst.snd.snd.snd), ()))) := by kernel_rfl
/- (*convoy/retry.Breaker).open -/
noncomputable def c89o : OCfg := ⟨89, Try.f89, ⟨19, 5, [(0, (.ptr 1 [])), (1, (.val (.int .i64)))], [(1, .box (.val (.agg (.pair (.int .i64) (.pair (.int .i64) (.pair (.int .i64) (.pair (.int .i64) (.pair (.int .i64) (.int .i64)))))))))]⟩, [⟨0, 1, [], [(1, .box (.val (.agg (.pair (.int .i64) (.pair (.int .i64) (.pair (.int .i64) (.pair (.int .i64) (.pair (.int .i64) (.int .i64)))))))))]⟩], [], []⟩
noncomputable def T89o (n : Nat) : Tab := ⟨[e33 n], []⟩
noncomputable def e89o (n : Nat) : OE := c89o.entry Try.prog (T89o n) n
theorem ok89o (n : Nat) : OOK Try.prog (e89o n) := c89o.sound (.cons (ok33 n) .nil) n Try.func89 (by kernel_rfl) (by kernel_rfl)
noncomputable def f89o (n : Nat) (now : Int) (b1 : (Int × (Int × (Int × (Int × (Int × Int)))))) : Option ((Unit × ((Int × (Int × (Int × (Int × (Int × Int))))) × Unit))) := c89o.f Try.prog (T89o n) n ((), now) (b1, ())
theorem f89o_eq (n : Nat) (now : Int) (b1 : (Int × (Int × (Int × (Int × (Int × Int)))))) : f89o n now b1 =
  (f33 n now b1.snd.fst).bind fun r1 =>
  some (((), ((b1.fst, b1.snd.fst, (2 : Int), b1.snd.snd.snd.fst, r1.fst, b1.snd.snd.snd.snd.snd), ()))) := by kernel_rfl
/- (*convoy/retry.Breaker).Done -/
noncomputable def c68o : OCfg := ⟨68, Try.f68, ⟨56, 6, [(0, (.ptr 1 [])), (1, (.val (.int .i64))), (2, (.val .bool))], [(1, .box (.val (.agg (.pair (.int .i64) (.pair (.int .i64) (.pair (.int .i64) (.pair (.int .i64) (.pair (.int .i64) (.int .i64)))))))))]⟩, [⟨1, 2, [(0, (.val (.int .i64)))], [(1, .box (.val (.agg (.pair (.int .i64) (.pair (.int .i64) (.pair (.int .i64) (.pair (.int .i64) (.pair (.int .i64) (.int .i64)))))))))]⟩], [], []⟩
noncomputable def T68o (n : Nat) : Tab := ⟨[e88z n], [e88o n, e89o n]⟩
noncomputable def e68o (n : Nat) : OE := c68o.entry Try.prog (T68o n) n
theorem ok68o (n : Nat) : OOK Try.prog (e68o n) := c68o.sound (.cons (ok88z n) (.ocons (ok88o n) (.ocons (ok89o n) .nil))) n Try.func68 (by kernel_rfl) (by kernel_rfl)
noncomputable def f68o (n : Nat) (now : Int) (fine : Bool) (b1 : (Int × (Int × (Int × (Int × (Int × Int)))))) : Option ((Int × ((Int × (Int × (Int × (Int × (Int × Int))))) × Unit))) := c68o.f Try.prog (T68o n) n ((), now, fine) (b1, ())
theorem f68o_eq (n : Nat) (now : Int) (fine : Bool) (b1 : (Int × (Int × (Int × (Int × (Int × Int)))))) : f68o n now fine b1 =
  (f88o n now b1).bind fun r1 =>
  bif r1.fst != (0 : Int) then
   some ((r1.fst, (r1.snd.fst, ())))
  else
   bif r1.snd.fst.snd.snd.fst == (2 : Int) then
    some (((0 : Int), (r1.snd.fst, ())))
   else
    bif fine then
     some (((0 : Int), ((r1.snd.fst.fst, r1.snd.fst.snd.fst, (1 : Int), (0 : Int), r1.snd.fst.snd.snd.snd.snd), ())))
    else
     bif r1.snd.fst.snd.snd.fst == (3 : Int) then
      (f89o n now r1.snd.fst).bind fun r2 =>
      some (((0 : Int), (r2.snd.fst, ())))
     else
      bif decide (Go.IntKind.i64.wrap (r1.snd.fst.snd.snd.snd.fst + (1 : Int)) ≥ r1.snd.fst.fst) then
       (f89o n now (r1.snd.fst.fst, r1.snd.fst.snd.fst, r1.snd.fst.snd.snd.fst, Go.IntKind.i64.wrap (r1.snd.fst.snd.snd.snd.fst + (1 : Int)), r1.snd.fst.snd.snd.snd.snd)).bind fun r3 =>
       some (((0 : Int), (r3.snd.fst, ())))
      else
       some (((0 : Int), ((r1.snd.fst.fst, r1.snd.fst.snd.fst, r1.snd.fst.snd.snd.fst, Go.IntKind.i64.wrap (r1.snd.fst.snd.snd.snd.fst + (1 : Int)), r1.snd.fst.snd.snd.snd.snd), ()))) := by kernel_rfl
/- (*convoy/retry.Breaker).State -/
noncomputable def c69o : OCfg := ⟨69, Try.f69, ⟨16, 4, [(0, (.ptr 1 [])), (1, (.val (.int .i64)))], [(1, .box (.val (.agg (.pair (.int .i64) (.pair (.int .i64) (.pair (.int .i64) (.pair (.int .i64) (.pair (.int .i64) (.int .i64)))))))))]⟩, [⟨1, 2, [(0, (.val (.int .i64)))], [(1, .box (.val (.agg (.pair (.int .i64) (.pair (.int .i64) (.pair (.int .i64) (.pair (.int .i64) (.pair (.int .i64) (.int .i64)))))))))]⟩], [], []⟩
noncomputable def T69o (n : Nat) : Tab := ⟨[e27 n], []⟩
noncomputable def e69o (n : Nat) : OE := c69o.entry Try.prog (T69o n) n
theorem ok69o (n : Nat) : OOK Try.prog (e69o n) := c69o.sound (.cons (ok27 n) .nil) n Try.func69 (by kernel_rfl) (by kernel_rfl)
noncomputable def f69o (n : Nat) (now : Int) (b1 : (Int × (Int × (Int × (Int × (Int × Int)))))) : Option ((Int × ((Int × (Int × (Int × (Int × (Int × Int))))) × Unit))) := c69o.f Try.prog (T69o n) n ((), now) (b1, ())
theorem f69o_eq (n : Nat) (now : Int) (b1 : (Int × (Int × (Int × (Int × (Int × Int)))))) : f69o n now b1 =
  (f27 n now).bind fun r1 =>
  bif !r1 then
   some (((0 : Int), (b1, ())))
  else
   some ((b1.snd.snd.fst, (b1, ()))) := by kernel_rfl
/- (*convoy/retry.Breaker).Until -/
noncomputable def c67o : OCfg := ⟨67, Try.f67, ⟨17, 5, [(0, (.ptr 1 []))], [(1, .box (.val (.agg (.pair (.int .i64) (.pair (.int .i64) (.pair (.int .i64) (.pair (.int .i64) (.pair (.int .i64) (.int .i64)))))))))]⟩, [⟨2, 2, [(0, (.val (.int .i64))), (1, (.val .bool))], [(1, .box (.val (.agg (.pair (.int .i64) (.pair (.int .i64) (.pair (.int .i64) (.pair (.int .i64) (.pair (.int .i64) (.int .i64)))))))))]⟩], [], []⟩
noncomputable def T67o (_ : Nat) : Tab := ⟨[], []⟩
noncomputable def e67o (n : Nat) : OE := c67o.entry Try.prog (T67o n) n
theorem ok67o (n : Nat) : OOK Try.prog (e67o n) := c67o.sound .nil n Try.func67 (by kernel_rfl) (by kernel_rfl)
noncomputable def f67o (n : Nat) (b1 : (Int × (Int × (Int × (Int × (Int × Int)))))) : Option (((Int × Bool) × ((Int × (Int × (Int × (Int × (Int × Int))))) × Unit))) := c67o.f Try.prog (T67o n) n () (b1, ())
theorem f67o_eq (n : Nat) (b1 : (Int × (Int × (Int × (Int × (Int × Int)))))) : f67o n b1 =
  bif b1.snd.snd.fst != (2 : Int) then
   some ((((0 : Int), false), (b1, ())))
  else
   some (((b1.snd.snd.snd.snd.fst, true), (b1, ()))) := by kernel_rfl
/- (*convoy/retry.Breaker).Clone -/
noncomputable def c70o : OCfg := ⟨70, Try.f70, ⟨9, 4, [(0, (.ptr 1 []))], [(1, .box (.val (.agg (.pair (.int .i64) (.pair (.int .i64) (.pair (.int .i64) (.pair (.int .i64) (.pair (.int .i64) (.int .i64)))))))))]⟩, [⟨1, 2, [(0, (.ptr 1003 []))], [(1, .box (.val (.agg (.pair (.int .i64) (.pair (.int .i64) (.pair (.int .i64) (.pair (.int .i64) (.pair (.int .i64) (.int .i64))))))))), (1003, .box (.val (.agg (.pair (.int .i64) (.pair (.int .i64) (.pair (.int .i64) (.pair (.int .i64) (.pair (.int .i64) (.int .i64)))))))))]⟩], [], []⟩
noncomputable def T70o (_ : Nat) : Tab := ⟨[], []⟩
noncomputable def e70o (n : Nat) : OE := c70o.entry Try.prog (T70o n) n
theorem ok70o (n : Nat) : OOK Try.prog (e70o n) := c70o.sound .nil n Try.func70 (by kernel_rfl) (by kernel_rfl)
noncomputable def f70o (n : Nat) (b1 : (Int × (Int × (Int × (Int × (Int × Int)))))) : Option ((Unit × ((Int × (Int × (Int × (Int × (Int × Int))))) × ((Int × (Int × (Int × (Int × (Int × Int))))) × Unit)))) := c70o.f Try.prog (T70o n) n () (b1, ())
theorem f70o_eq (n : Nat) (b1 : (Int × (Int × (Int × (Int × (Int × Int)))))) : f70o n b1 =
  some (((), (b1, b1, ()))) := by kernel_rfl
/- convoy/retry.New -/
noncomputable def c71o : OCfg := ⟨71, Try.f71, ⟨16, 4, [(0, (.val (.int .i64))), (1, (.val (.int .i64)))], []⟩, [⟨2, 2, [(0, .nilp), (1, (.val (.int .i64)))], []⟩, ⟨2, 2, [(0, (.ptr 1015 [])), (1, (.val (.int .i64)))], [(1015, .box (.val (.agg (.pair (.int .i64) (.pair (.int .i64) (.pair (.int .i64) (.pair (.int .i64) (.pair (.int .i64) (.int .i64)))))))))]⟩], [], []⟩
noncomputable def T71o (_ : Nat) : Tab := ⟨[], []⟩
noncomputable def e71o (n : Nat) : OE := c71o.entry Try.prog (T71o n) n
theorem ok71o (n : Nat) : OOK Try.prog (e71o n) := c71o.sound .nil n Try.func71 (by kernel_rfl) (by kernel_rfl)
noncomputable def f71o (n : Nat) (fails : Int) (cool : Int) : Option ((((Unit × Int) × Unit) ⊕ ((Unit × Int) × ((Int × (Int × (Int × (Int × (Int × Int))))) × Unit)))) := c71o.f Try.prog (T71o n) n (fails, cool) ()
theorem f71o_eq (n : Nat) (fails : Int) (cool : Int) : f71o n fails cool =
  bif decide (fails < (1 : Int)) then
   some (Sum.inl (((), (1 : Int)), ()))
  else
   bif decide (cool < (0 : Int)) then
    some (Sum.inl (((), (1 : Int)), ()))
   else
    some (Sum.inr ((((), (0 : Int)), ((fails, cool, (1 : Int), (0 : Int), (0 : Int), (0 : Int)), ())))) := by kernel_rfl
/- (convoy/convoyref17.Breaker).wrong -/
noncomputable def c90 : Cfg := ⟨90, Try.f90, [(.agg (.pair (.int .i64) (.pair (.int .i64) (.pair (.int .i64) (.pair (.int .i64) (.pair (.int .i64) (.int .i64))))))), (.int .i64)], [(.int .i64)], 4, [], []⟩
noncomputable def T90 (_ : Nat) : Tab := ⟨[], []⟩
noncomputable def e90 (n : Nat) : Entry := c90.entry Try.prog (T90 n) n
theorem ok90 (n : Nat) : FnOK Try.prog (e90 n) := c90.sound .nil n Try.func90 (by kernel_rfl) (by kernel_rfl)
noncomputable def f90 (n : Nat) (b : (Int × (Int × (Int × (Int × (Int × Int)))))) (now : Int) : Option (Int) := c90.f Try.prog (T90 n) n (b, now)
theorem f90_eq (n : Nat) (b : (Int × (Int × (Int × (Int × (Int × Int)))))) (now : Int) : f90 n b now =
  bif decide (now < (0 : Int)) then
   some (10 : Int)
  else
   bif decide (now > (4611686018427387904 : Int)) then
    some (10 : Int)
   else
    bif decide (now < b.snd.snd.snd.snd.snd) then
     some (101 : Int)
    else
     some (0 : Int) := by kernel_rfl
/- (convoy/convoyref17.Breaker).open -/
noncomputable def c91 : Cfg := ⟨91, Try.f91, [(.agg (.pair (.int .i64) (.pair (.int .i64) (.pair (.int .i64) (.pair (.int .i64) (.pair (.int .i64) (.int .i64))))))), (.int .i64)], [(.agg (.pair (.int .i64) (.pair (.int .i64) (.pair (.int .i64) (.pair (.int .i64) (.pair (.int .i64) (.int .i64)))))))], 5, [], []⟩
noncomputable def T91 (_ : Nat) : Tab := ⟨[], []⟩
noncomputable def e91 (n : Nat) : Entry := c91.entry Try.prog (T91 n) n
theorem ok91 (n : Nat) : FnOK Try.prog (e91 n) := c91.sound .nil n Try.func91 (by kernel_rfl) (by kernel_rfl)
noncomputable def f91 (n : Nat) (b : (Int × (Int × (Int × (Int × (Int × Int)))))) (now : Int) : Option ((Int × (Int × (Int × (Int × (Int × Int)))))) := c91.f Try.prog (T91 n) n (b, now)
theorem f91_eq (n : Nat) (b : (Int × (Int × (Int × (Int × (Int × Int)))))) (now : Int) : f91 n b now =
  bif decide (b.snd.fst ≤ Go.IntKind.i64.wrap ((4611686018427387904 : Int) - now)) then
   some ((b.fst, b.snd.fst, (2 : Int), (0 : Int), Go.IntKind.i64.wrap (now + b.snd.fst), b.snd.snd.snd.snd.snd))
  else
   some ((b.fst, b.snd.fst, (2 : Int), (0 : Int), (4611686018427387904 : Int), b.snd.snd.snd.snd.snd)) := by kernel_rfl
/- (convoy/convoyref17.Breaker).Ask -/
noncomputable def c72 : Cfg := ⟨72, Try.f72, [(.agg (.pair (.int .i64) (.pair (.int .i64) (.pair (.int .i64) (.pair (.int .i64) (.pair (.int .i64) (.int .i64))))))), (.int .i64)], [(.agg (.pair (.int .i64) (.pair (.int .i64) (.pair (.int .i64) (.pair (.int .i64) (.pair (.int .i64) (.int .i64))))))), .bool, (.int .i64)], 5, [], []⟩
noncomputable def T72 (n : Nat) : Tab := ⟨[e90 n], []⟩
noncomputable def e72 (n : Nat) : Entry := c72.entry Try.prog (T72 n) n
theorem ok72 (n : Nat) : FnOK Try.prog (e72 n) := c72.sound (.cons (ok90 n) .nil) n Try.func72 (by kernel_rfl) (by kernel_rfl)
noncomputable def f72 (n : Nat) (b : (Int × (Int × (Int × (Int × (Int × Int)))))) (now : Int) : Option ((Int × (Int × (Int × (Int × (Int × Int))))) × Bool × Int) := c72.f Try.prog (T72 n) n (b, now)
theorem f72_eq (n : Nat) (b : (Int × (Int × (Int × (Int × (Int × Int)))))) (now : Int) : f72 n b now =
  (f90 n b now).bind fun r1 =>
  bif r1 != (0 : Int) then
   some (b, false, r1)
  else
   bif b.snd.snd.fst == (2 : Int) then
    bif decide (now ≥ b.snd.snd.snd.snd.fst) then
     some ((b.fst, b.snd.fst, (3 : Int), b.snd.snd.snd.fst, b.snd.snd.snd.snd.fst, now), true, (0 : Int))
    else
     some ((b.fst, b.snd.fst, b.snd.snd.fst, b.snd.snd.snd.fst, b.snd.snd.snd.snd.fst, now), b.snd.snd.fst == (1 : Int), (0 : Int))
   else
    some ((b.fst, b.snd.fst, b.snd.snd.fst, b.snd.snd.snd.fst, b.snd.snd.snd.snd.fst, now), b.snd.snd.fst == (1 : Int), (0 : Int)) := by kernel_rfl
/- (convoy/convoyref17.Breaker).Done -/
noncomputable def c73 : Cfg := ⟨73, Try.f73, [(.agg (.pair (.int .i64) (.pair (.int .i64) (.pair (.int .i64) (.pair (.int .i64) (.pair (.int .i64) (.int .i64))))))), (.int .i64), .bool], [(.agg (.pair (.int .i64) (.pair (.int .i64) (.pair (.int .i64) (.pair (.int .i64) (.pair (.int .i64) (.int .i64))))))), (.int .i64)], 6, [], []⟩
noncomputable def T73 (n : Nat) : Tab := ⟨[e90 n, e91 n], []⟩
noncomputable def e73 (n : Nat) : Entry := c73.entry Try.prog (T73 n) n
theorem ok73 (n : Nat) : FnOK Try.prog (e73 n) := c73.sound (.cons (ok90 n) (.cons (ok91 n) .nil)) n Try.func73 (by kernel_rfl) (by kernel_rfl)
noncomputable def f73 (n : Nat) (b : (Int × (Int × (Int × (Int × (Int × Int)))))) (now : Int) (fine : Bool) : Option ((Int × (Int × (Int × (Int × (Int × Int))))) × Int) := c73.f Try.prog (T73 n) n (b, now, fine)
theorem f73_eq (n : Nat) (b : (Int × (Int × (Int × (Int × (Int × Int)))))) (now : Int) (fine : Bool) : f73 n b now fine =
  (f90 n b now).bind fun r1 =>
  bif r1 != (0 : Int) then
   some (b, r1)
  else
   bif b.snd.snd.fst == (1 : Int) then
    bif fine then
     some ((b.fst, b.snd.fst, b.snd.snd.fst, (0 : Int), b.snd.snd.snd.snd.fst, now), (0 : Int))
    else
     bif decide (Go.IntKind.i64.wrap (b.snd.snd.snd.fst + (1 : Int)) ≥ b.fst) then
      (f91 n (b.fst, b.snd.fst, b.snd.snd.fst, Go.IntKind.i64.wrap (b.snd.snd.snd.fst + (1 : Int)), b.snd.snd.snd.snd.fst, now) now).bind fun r2 =>
      some (r2, (0 : Int))
     else
      some ((b.fst, b.snd.fst, b.snd.snd.fst, Go.IntKind.i64.wrap (b.snd.snd.snd.fst + (1 : Int)), b.snd.snd.snd.snd.fst, now), (0 : Int))
   else
    bif b.snd.snd.fst == (3 : Int) then
     bif fine then
      some ((b.fst, b.snd.fst, (1 : Int), (0 : Int), b.snd.snd.snd.snd.fst, now), (0 : Int))
     else
      (f91 n (b.fst, b.snd.fst, b.snd.snd.fst, b.snd.snd.snd.fst, b.snd.snd.snd.snd.fst, now) now).bind fun r3 =>
      some (r3, (0 : Int))
    else
     some ((b.fst, b.snd.fst, b.snd.snd.fst, b.snd.snd.snd.fst, b.snd.snd.snd.snd.fst, now), (0 : Int)) := by kernel_rfl
/- convoy/convoylaw17.RetryBreaks -/
noncomputable def c15 : Cfg := ⟨15, Try.f15, [(.int .i64), (.int .i64), (.sl 104 (.agg (.pair (.int .i64) (.int .i64))))], [.bool], 8, [3, 9, 28, 31], [(7, ⟨174, 8, [(0, (.val (.int .i64))), (1, (.val (.int .i64))), (2, (.val (.sl 104 (.agg (.pair (.int .i64) (.int .i64)))))), (7, .nilp), (8, (.val (.int .i64))), (9, (.val .bool))], []⟩), (1000007, ⟨174, 8, [(0, (.val (.int .i64))), (1, (.val (.int .i64))), (2, (.val (.sl 104 (.agg (.pair (.int .i64) (.int .i64)))))), (7, (.ptr 2015 [])), (8, (.val (.int .i64))), (9, (.val .bool))], [(2015, .box (.val (.agg (.pair (.int .i64) (.pair (.int .i64) (.pair (.int .i64) (.pair (.int .i64) (.pair (.int .i64) (.int .i64)))))))))]⟩), (14, ⟨174, 8, [(2, (.val (.sl 104 (.agg (.pair (.int .i64) (.int .i64)))))), (7, .nilp), (9, (.val .bool)), (10, (.ptr 1010 [])), (11, (.val (.int .i64)))], [(1010, .box (.val (.agg (.pair (.int .i64) (.pair (.int .i64) (.pair (.int .i64) (.pair (.int .i64) (.pair (.int .i64) (.int .i64)))))))))]⟩), (1000014, ⟨174, 8, [(2, (.val (.sl 104 (.agg (.pair (.int .i64) (.int .i64)))))), (7, (.ptr 2015 [])), (9, (.val .bool)), (10, (.ptr 1010 [])), (11, (.val (.int .i64)))], [(1010, .box (.val (.agg (.pair (.int .i64) (.pair (.int .i64) (.pair (.int .i64) (.pair (.int .i64) (.pair (.int .i64) (.int .i64))))))))), (2015, .box (.val (.agg (.pair (.int .i64) (.pair (.int .i64) (.pair (.int .i64) (.pair (.int .i64) (.pair (.int .i64) (.int .i64)))))))))]⟩), (19, ⟨174, 8, [(2, (.val (.sl 104 (.agg (.pair (.int .i64) (.int .i64)))))), (7, .nilp), (9, (.val .bool)), (10, (.ptr 1010 [])), (11, (.val (.int .i64))), (67, (.val .bool))], [(1010, .box (.val (.agg (.pair (.int .i64) (.pair (.int .i64) (.pair (.int .i64) (.pair (.int .i64) (.pair (.int .i64) (.int .i64)))))))))]⟩), (1000019, ⟨174, 8, [(2, (.val (.sl 104 (.agg (.pair (.int .i64) (.int .i64)))))), (7, (.ptr 2015 [])), (9, (.val .bool)), (10, (.ptr 1010 [])), (11, (.val (.int .i64))), (67, (.val .bool))], [(1010, .box (.val (.agg (.pair (.int .i64) (.pair (.int .i64) (.pair (.int .i64) (.pair (.int .i64) (.pair (.int .i64) (.int .i64))))))))), (2015, .box (.val (.agg (.pair (.int .i64) (.pair (.int .i64) (.pair (.int .i64) (.pair (.int .i64) (.pair (.int .i64) (.int .i64)))))))))]⟩), (57, ⟨174, 8, [(2, (.val (.sl 104 (.agg (.pair (.int .i64) (.int .i64)))))), (7, .nilp), (9, (.val .bool)), (10, (.ptr 1010 [])), (11, (.val (.int .i64))), (12, (.ptr 1012 [])), (67, (.val .bool))], [(1010, .box (.val (.agg (.pair (.int .i64) (.pair (.int .i64) (.pair (.int .i64) (.pair (.int .i64) (.pair (.int .i64) (.int .i64))))))))), (1012, .box (.val (.agg (.pair (.int .i64) (.int .i64)))))]⟩), (1000057, ⟨174, 8, [(2, (.val (.sl 104 (.agg (.pair (.int .i64) (.int .i64)))))), (7, (.ptr 2015 [])), (9, (.val .bool)), (10, (.ptr 1010 [])), (11, (.val (.int .i64))), (12, (.ptr 1012 [])), (67, (.val .bool))], [(1010, .box (.val (.agg (.pair (.int .i64) (.pair (.int .i64) (.pair (.int .i64) (.pair (.int .i64) (.pair (.int .i64) (.int .i64))))))))), (1012, .box (.val (.agg (.pair (.int .i64) (.int .i64))))), (2015, .box (.val (.agg (.pair (.int .i64) (.pair (.int .i64) (.pair (.int .i64) (.pair (.int .i64) (.pair (.int .i64) (.int .i64)))))))))]⟩), (63, ⟨174, 8, [(2, (.val (.sl 104 (.agg (.pair (.int .i64) (.int .i64)))))), (7, .nilp), (9, (.val .bool)), (10, (.ptr 1010 [])), (11, (.val (.int .i64))), (12, (.ptr 1012 [])), (22, (.val (.int .i64))), (67, (.val .bool))], [(1010, .box (.val (.agg (.pair (.int .i64) (.pair (.int .i64) (.pair (.int .i64) (.pair (.int .i64) (.pair (.int .i64) (.int .i64))))))))), (1012, .box (.val (.agg (.pair (.int .i64) (.int .i64)))))]⟩), (1000063, ⟨174, 8, [(2, (.val (.sl 104 (.agg (.pair (.int .i64) (.int .i64)))))), (7, (.ptr 2015 [])), (9, (.val .bool)), (10, (.ptr 1010 [])), (11, (.val (.int .i64))), (12, (.ptr 1012 [])), (22, (.val (.int .i64))), (67, (.val .bool))], [(1010, .box (.val (.agg (.pair (.int .i64) (.pair (.int .i64) (.pair (.int .i64) (.pair (.int .i64) (.pair (.int .i64) (.int .i64))))))))), (1012, .box (.val (.agg (.pair (.int .i64) (.int .i64))))), (2015, .box (.val (.agg (.pair (.int .i64) (.pair (.int .i64) (.pair (.int .i64) (.pair (.int .i64) (.pair (.int .i64) (.int .i64)))))))))]⟩)]⟩
noncomputable def T15 (n : Nat) : Tab := ⟨[e41 n, e66z n, e72 n, e70z n, e68z n, e73 n, e28 n, e67z n, e69z n], [e71o n, e66o n, e70o n, e68o n, e67o n, e69o n]⟩
noncomputable def e15 (n : Nat) : Entry := c15.entry Try.prog (T15 n) n
theorem ok15 (n : Nat) : FnOK Try.prog (e15 n) := c15.sound (.ocons (ok71o n) (.cons (ok41 n) (.cons (ok66z n) (.ocons (ok66o n) (.cons (ok72 n) (.cons (ok70z n) (.ocons (ok70o n) (.cons (ok68z n) (.ocons (ok68o n) (.cons (ok73 n) (.cons (ok28 n) (.cons (ok67z n) (.ocons (ok67o n) (.cons (ok69z n) (.ocons (ok69o n) .nil))))))))))))))) n Try.func15 (by kernel_rfl) (by kernel_rfl)
noncomputable def f15 (n : Nat) (fails : Int) (cool : Int) (l : List (Int × Int)) : Option (Bool) := c15.f Try.prog (T15 n) n (fails, cool, l)
noncomputable def f15_7 (n m : Nat) (fails : Int) (cool : Int) (l : List (Int × Int)) (e : Int) (may : Bool) : Option (Bool) := c15.LL Try.prog (T15 n) m 7 (fails, cool, l, (), e, may) ()
noncomputable def f15_1000007 (n m : Nat) (fails : Int) (cool : Int) (l : List (Int × Int)) (e : Int) (may : Bool) (b2015 : (Int × (Int × (Int × (Int × (Int × Int)))))) : Option (Bool) := c15.LL Try.prog (T15 n) m 1000007 (fails, cool, l, (), e, may) (b2015, ())
noncomputable def f15_14 (n m : Nat) (l : List (Int × Int)) (may : Bool) (i : Int) (b1010 : (Int × (Int × (Int × (Int × (Int × Int)))))) : Option (Bool) := c15.LL Try.prog (T15 n) m 14 (l, (), may, (), i) (b1010, ())
noncomputable def f15_1000014 (n m : Nat) (l : List (Int × Int)) (may : Bool) (i : Int) (b1010 : (Int × (Int × (Int × (Int × (Int × Int)))))) (b2015 : (Int × (Int × (Int × (Int × (Int × Int)))))) : Option (Bool) := c15.LL Try.prog (T15 n) m 1000014 (l, (), may, (), i) (b1010, b2015, ())
noncomputable def f15_19 (n m : Nat) (l : List (Int × Int)) (may : Bool) (i : Int) (x67 : Bool) (b1010 : (Int × (Int × (Int × (Int × (Int × Int)))))) : Option (Bool) := c15.LL Try.prog (T15 n) m 19 (l, (), may, (), i, x67) (b1010, ())
noncomputable def f15_1000019 (n m : Nat) (l : List (Int × Int)) (may : Bool) (i : Int) (x67 : Bool) (b1010 : (Int × (Int × (Int × (Int × (Int × Int)))))) (b2015 : (Int × (Int × (Int × (Int × (Int × Int)))))) : Option (Bool) := c15.LL Try.prog (T15 n) m 1000019 (l, (), may, (), i, x67) (b1010, b2015, ())
noncomputable def f15_57 (n m : Nat) (l : List (Int × Int)) (may : Bool) (i : Int) (x67 : Bool) (b1010 : (Int × (Int × (Int × (Int × (Int × Int)))))) (b1012 : (Int × Int)) : Option (Bool) := c15.LL Try.prog (T15 n) m 57 (l, (), may, (), i, (), x67) (b1010, b1012, ())
noncomputable def f15_1000057 (n m : Nat) (l : List (Int × Int)) (may : Bool) (i : Int) (x67 : Bool) (b1010 : (Int × (Int × (Int × (Int × (Int × Int)))))) (b1012 : (Int × Int)) (b2015 : (Int × (Int × (Int × (Int × (Int × Int)))))) : Option (Bool) := c15.LL Try.prog (T15 n) m 1000057 (l, (), may, (), i, (), x67) (b1010, b1012, b2015, ())
noncomputable def f15_63 (n m : Nat) (l : List (Int × Int)) (may : Bool) (i : Int) (want : Int) (x67 : Bool) (b1010 : (Int × (Int × (Int × (Int × (Int × Int)))))) (b1012 : (Int × Int)) : Option (Bool) := c15.LL Try.prog (T15 n) m 63 (l, (), may, (), i, (), want, x67) (b1010, b1012, ())
noncomputable def f15_1000063 (n m : Nat) (l : List (Int × Int)) (may : Bool) (i : Int) (want : Int) (x67 : Bool) (b1010 : (Int × (Int × (Int × (Int × (Int × Int)))))) (b1012 : (Int × Int)) (b2015 : (Int × (Int × (Int × (Int × (Int × Int)))))) : Option (Bool) := c15.LL Try.prog (T15 n) m 1000063 (l, (), may, (), i, (), want, x67) (b1010, b1012, b2015, ())
theorem f15_7_zero (n : Nat) (fails : Int) (cool : Int) (l : List (Int × Int)) (e : Int) (may : Bool) : f15_7 n 0 fails cool l e may = none := rfl
theorem f15_7_eq (n m : Nat) (fails : Int) (cool : Int) (l : List (Int × Int)) (e : Int) (may : Bool) : f15_7 n (m + 1) fails cool l e may =
  (f41 n).bind fun r1 =>
  bif !r1 then
   some false
  else
   bif !false == may then
    some false
   else
    bif !(e == (0 : Int)) == may then
     some false
    else
     bif !may then
      bif e != (1 : Int) then
       some false
      else
       f15_14 n m l may (0 : Int) ((fails, cool, (1 : Int), (0 : Int), (0 : Int), (0 : Int)))
     else
      f15_14 n m l may (0 : Int) ((fails, cool, (1 : Int), (0 : Int), (0 : Int), (0 : Int))) := by kernel_rfl
theorem f15_1000007_zero (n : Nat) (fails : Int) (cool : Int) (l : List (Int × Int)) (e : Int) (may : Bool) (b2015 : (Int × (Int × (Int × (Int × (Int × Int)))))) : f15_1000007 n 0 fails cool l e may b2015 = none := rfl
theorem f15_1000007_eq (n m : Nat) (fails : Int) (cool : Int) (l : List (Int × Int)) (e : Int) (may : Bool) (b2015 : (Int × (Int × (Int × (Int × (Int × Int)))))) : f15_1000007 n (m + 1) fails cool l e may b2015 =
  (f41 n).bind fun r1 =>
  bif !r1 then
   some false
  else
   bif !true == may then
    some false
   else
    bif !(e == (0 : Int)) == may then
     some false
    else
     bif !may then
      bif e != (1 : Int) then
       some false
      else
       f15_1000014 n m l may (0 : Int) ((fails, cool, (1 : Int), (0 : Int), (0 : Int), (0 : Int))) b2015
     else
      f15_1000014 n m l may (0 : Int) ((fails, cool, (1 : Int), (0 : Int), (0 : Int), (0 : Int))) b2015 := by kernel_rfl
theorem f15_14_zero (n : Nat) (l : List (Int × Int)) (may : Bool) (i : Int) (b1010 : (Int × (Int × (Int × (Int × (Int × Int)))))) : f15_14 n 0 l may i b1010 = none := rfl
theorem f15_14_eq (n m : Nat) (l : List (Int × Int)) (may : Bool) (i : Int) (b1010 : (Int × (Int × (Int × (Int × (Int × Int)))))) : f15_14 n (m + 1) l may i b1010 =
  bif decide (i < ↑l.length) then
   bif may then
    f15_19 n m l may i may b1010
   else
    some true
  else
   some true := by kernel_rfl
theorem f15_1000014_zero (n : Nat) (l : List (Int × Int)) (may : Bool) (i : Int) (b1010 : (Int × (Int × (Int × (Int × (Int × Int)))))) (b2015 : (Int × (Int × (Int × (Int × (Int × Int)))))) : f15_1000014 n 0 l may i b1010 b2015 = none := rfl
theorem f15_1000014_eq (n m : Nat) (l : List (Int × Int)) (may : Bool) (i : Int) (b1010 : (Int × (Int × (Int × (Int × (Int × Int)))))) (b2015 : (Int × (Int × (Int × (Int × (Int × Int)))))) : f15_1000014 n (m + 1) l may i b1010 b2015 =
  bif decide (i < ↑l.length) then
   bif may then
    f15_1000019 n m l may i may b1010 b2015
   else
    some true
  else
   some true := by kernel_rfl
theorem f15_19_zero (n : Nat) (l : List (Int × Int)) (may : Bool) (i : Int) (x67 : Bool) (b1010 : (Int × (Int × (Int × (Int × (Int × Int)))))) : f15_19 n 0 l may i x67 b1010 = none := rfl
theorem f15_19_eq (n m : Nat) (l : List (Int × Int)) (may : Bool) (i : Int) (x67 : Bool) (b1010 : (Int × (Int × (Int × (Int × (Int × Int)))))) : f15_19 n (m + 1) l may i x67 b1010 =
  bif decide ((0 : Int) ≤ i ∧ i < ↑l.length) then
   bif (l.getD i.toNat ((0 : Int), (0 : Int))).fst == (0 : Int) then
    (f66z n () (l.getD i.toNat ((0 : Int), (0 : Int))).snd).bind fun r1 =>
    (f72 n b1010 (l.getD i.toNat ((0 : Int), (0 : Int))).snd).bind fun r2 =>
    bif !r1.fst == r2.snd.fst then
     some false
    else
     bif r1.snd != r2.snd.snd then
      some false
     else
      f15_57 n m l may i x67 r2.fst (l.getD i.toNat ((0 : Int), (0 : Int)))
   else
    bif (l.getD i.toNat ((0 : Int), (0 : Int))).fst == (3 : Int) then
     (f70z n ()).bind fun r3 =>
     (f68z n () (4611686018427387904 : Int) false).bind fun r4 =>
     some false
    else
     (f68z n () (l.getD i.toNat ((0 : Int), (0 : Int))).snd ((l.getD i.toNat ((0 : Int), (0 : Int))).fst == (1 : Int))).bind fun r5 =>
     (f73 n b1010 (l.getD i.toNat ((0 : Int), (0 : Int))).snd ((l.getD i.toNat ((0 : Int), (0 : Int))).fst == (1 : Int))).bind fun r6 =>
     bif r5 != r6.snd then
      some false
     else
      f15_57 n m l may i x67 r6.fst (l.getD i.toNat ((0 : Int), (0 : Int)))
  else
   none := by kernel_rfl
theorem f15_1000019_zero (n : Nat) (l : List (Int × Int)) (may : Bool) (i : Int) (x67 : Bool) (b1010 : (Int × (Int × (Int × (Int × (Int × Int)))))) (b2015 : (Int × (Int × (Int × (Int × (Int × Int)))))) : f15_1000019 n 0 l may i x67 b1010 b2015 = none := rfl
theorem f15_1000019_eq (n m : Nat) (l : List (Int × Int)) (may : Bool) (i : Int) (x67 : Bool) (b1010 : (Int × (Int × (Int × (Int × (Int × Int)))))) (b2015 : (Int × (Int × (Int × (Int × (Int × Int)))))) : f15_1000019 n (m + 1) l may i x67 b1010 b2015 =
  bif decide ((0 : Int) ≤ i ∧ i < ↑l.length) then
   bif (l.getD i.toNat ((0 : Int), (0 : Int))).fst == (0 : Int) then
    (f66o n (l.getD i.toNat ((0 : Int), (0 : Int))).snd b2015).bind fun r1 =>
    (f72 n b1010 (l.getD i.toNat ((0 : Int), (0 : Int))).snd).bind fun r2 =>
    bif !r1.fst.fst == r2.snd.fst then
     some false
    else
     bif r1.fst.snd != r2.snd.snd then
      some false
     else
      f15_1000057 n m l may i x67 r2.fst (l.getD i.toNat ((0 : Int), (0 : Int))) r1.snd.fst
   else
    bif (l.getD i.toNat ((0 : Int), (0 : Int))).fst == (3 : Int) then
     (f70o n b2015).bind fun r3 =>
     (f68o n (4611686018427387904 : Int) false r3.snd.fst).bind fun r4 =>
     f15_1000057 n m l may i x67 b1010 (l.getD i.toNat ((0 : Int), (0 : Int))) r3.snd.snd.fst
    else
     (f68o n (l.getD i.toNat ((0 : Int), (0 : Int))).snd ((l.getD i.toNat ((0 : Int), (0 : Int))).fst == (1 : Int)) b2015).bind fun r5 =>
     (f73 n b1010 (l.getD i.toNat ((0 : Int), (0 : Int))).snd ((l.getD i.toNat ((0 : Int), (0 : Int))).fst == (1 : Int))).bind fun r6 =>
     bif r5.fst != r6.snd then
      some false
     else
      f15_1000057 n m l may i x67 r6.fst (l.getD i.toNat ((0 : Int), (0 : Int))) r5.snd.fst
  else
   none := by kernel_rfl
theorem f15_57_zero (n : Nat) (l : List (Int × Int)) (may : Bool) (i : Int) (x67 : Bool) (b1010 : (Int × (Int × (Int × (Int × (Int × Int)))))) (b1012 : (Int × Int)) : f15_57 n 0 l may i x67 b1010 b1012 = none := rfl
theorem f15_57_eq (n m : Nat) (l : List (Int × Int)) (may : Bool) (i : Int) (x67 : Bool) (b1010 : (Int × (Int × (Int × (Int × (Int × Int)))))) (b1012 : (Int × Int)) : f15_57 n (m + 1) l may i x67 b1010 b1012 =
  (f28 n b1012.snd).bind fun r1 =>
  bif !r1 then
   f15_63 n m l may i (0 : Int) x67 b1010 b1012
  else
   f15_63 n m l may i b1010.snd.snd.fst x67 b1010 b1012 := by kernel_rfl
theorem f15_1000057_zero (n : Nat) (l : List (Int × Int)) (may : Bool) (i : Int) (x67 : Bool) (b1010 : (Int × (Int × (Int × (Int × (Int × Int)))))) (b1012 : (Int × Int)) (b2015 : (Int × (Int × (Int × (Int × (Int × Int)))))) : f15_1000057 n 0 l may i x67 b1010 b1012 b2015 = none := rfl
theorem f15_1000057_eq (n m : Nat) (l : List (Int × Int)) (may : Bool) (i : Int) (x67 : Bool) (b1010 : (Int × (Int × (Int × (Int × (Int × Int)))))) (b1012 : (Int × Int)) (b2015 : (Int × (Int × (Int × (Int × (Int × Int)))))) : f15_1000057 n (m + 1) l may i x67 b1010 b1012 b2015 =
  (f28 n b1012.snd).bind fun r1 =>
  bif !r1 then
   f15_1000063 n m l may i (0 : Int) x67 b1010 b1012 b2015
  else
   f15_1000063 n m l may i b1010.snd.snd.fst x67 b1010 b1012 b2015 := by kernel_rfl
theorem f15_63_zero (n : Nat) (l : List (Int × Int)) (may : Bool) (i : Int) (want : Int) (x67 : Bool) (b1010 : (Int × (Int × (Int × (Int × (Int × Int)))))) (b1012 : (Int × Int)) : f15_63 n 0 l may i want x67 b1010 b1012 = none := rfl
theorem f15_63_eq (n m : Nat) (l : List (Int × Int)) (may : Bool) (i : Int) (want : Int) (x67 : Bool) (b1010 : (Int × (Int × (Int × (Int × (Int × Int)))))) (b1012 : (Int × Int)) : f15_63 n (m + 1) l may i want x67 b1010 b1012 =
  (f67z n ()).bind fun r1 =>
  (f69z n () b1012.snd).bind fun r2 =>
  bif r2 != want then
   some false
  else
   bif !r1.snd == (b1010.snd.snd.fst == (2 : Int)) then
    some false
   else
    bif r1.snd then
     bif r1.fst != b1010.snd.snd.snd.snd.fst then
      some false
     else
      bif !r1.snd then
       bif r1.fst != (0 : Int) then
        some false
       else
        f15_14 n m l may (Go.IntKind.i64.wrap (i + (1 : Int))) b1010
      else
       f15_14 n m l may (Go.IntKind.i64.wrap (i + (1 : Int))) b1010
    else
     bif !r1.snd then
      bif r1.fst != (0 : Int) then
       some false
      else
       f15_14 n m l may (Go.IntKind.i64.wrap (i + (1 : Int))) b1010
     else
      f15_14 n m l may (Go.IntKind.i64.wrap (i + (1 : Int))) b1010 := by kernel_rfl
theorem f15_1000063_zero (n : Nat) (l : List (Int × Int)) (may : Bool) (i : Int) (want : Int) (x67 : Bool) (b1010 : (Int × (Int × (Int × (Int × (Int × Int)))))) (b1012 : (Int × Int)) (b2015 : (Int × (Int × (Int × (Int × (Int × Int)))))) : f15_1000063 n 0 l may i want x67 b1010 b1012 b2015 = none := rfl
theorem f15_1000063_eq (n m : Nat) (l : List (Int × Int)) (may : Bool) (i : Int) (want : Int) (x67 : Bool) (b1010 : (Int × (Int × (Int × (Int × (Int × Int)))))) (b1012 : (Int × Int)) (b2015 : (Int × (Int × (Int × (Int × (Int × Int)))))) : f15_1000063 n (m + 1) l may i want x67 b1010 b1012 b2015 =
  (f67o n b2015).bind fun r1 =>
  (f69o n b1012.snd r1.snd.fst).bind fun r2 =>
  bif r2.fst != want then
   some false
  else
   bif !r1.fst.snd == (b1010.snd.snd.fst == (2 : Int)) then
    some false
   else
    bif r1.fst.snd then
     bif r1.fst.fst != b1010.snd.snd.snd.snd.fst then
      some false
     else
      bif !r1.fst.snd then
       bif r1.fst.fst != (0 : Int) then
        some false
       else
        f15_1000014 n m l may (Go.IntKind.i64.wrap (i + (1 : Int))) b1010 r2.snd.fst
      else
       f15_1000014 n m l may (Go.IntKind.i64.wrap (i + (1 : Int))) b1010 r2.snd.fst
    else
     bif !r1.fst.snd then
      bif r1.fst.fst != (0 : Int) then
       some false
      else
       f15_1000014 n m l may (Go.IntKind.i64.wrap (i + (1 : Int))) b1010 r2.snd.fst
     else
      f15_1000014 n m l may (Go.IntKind.i64.wrap (i + (1 : Int))) b1010 r2.snd.fst := by kernel_rfl
theorem f15_eq (n : Nat) (fails : Int) (cool : Int) (l : List (Int × Int)) : f15 n fails cool l =
  (f71o n fails cool).bind fun r1 =>
  Sum.elim (fun p2 =>
   bif decide (fails ≥ (1 : Int)) then
    f15_7 n n fails cool l p2.fst.snd (decide (cool ≥ (0 : Int)))
   else
    f15_7 n n fails cool l p2.fst.snd false) (fun p2 =>
   bif decide (fails ≥ (1 : Int)) then
    f15_1000007 n n fails cool l p2.fst.snd (decide (cool ≥ (0 : Int))) p2.snd.fst
   else
    f15_1000007 n n fails cool l p2.fst.snd false p2.snd.fst) r1 := by kernel_rfl
end Go.Proofs.Ytnlnfmakcnadlaa
