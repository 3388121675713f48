/- What the functions of the chapter on ticks compute: printed, and checked by the kernel. -/
import Derived.Test.YtnlnfmakcnadlaaRfT
import Derived.Test.YtnlnfmakcnadlaaProg
import Derived.Test.YtnlnfmakcnadlaaChecked
namespace Go.Proofs.Ytnlnfmakcnadlaa
open Go.Rf
noncomputable def f75 (_n : Nat) (x y c : Int) : Option (Int × Int) := add64 x y c
noncomputable def e75 (_n : Nat) : Entry := add64E 75
theorem ok75 (n : Nat) : FnOK Try.prog (e75 n) := add64_ok Try.func75 (by kernel_rfl) (by kernel_rfl) (by kernel_rfl) (by kernel_rfl)
noncomputable def str0 : ByteArray := { data := (([0, 1, 2, 2, 3, 3, 3, 3, 4, 4, 4, 4, 4, 4, 4, 4, 5, 5, 5, 5, 5, 5, 5, 5, 5, 5, 5, 5, 5, 5, 5, 5, 6, 6, 6, 6, 6, 6, 6, 6, 6, 6, 6, 6, 6, 6, 6, 6, 6, 6, 6, 6, 6, 6, 6, 6, 6, 6, 6, 6, 6, 6, 6, 6].append [7, 7, 7, 7, 7, 7, 7, 7, 7, 7, 7, 7, 7, 7, 7, 7, 7, 7, 7, 7, 7, 7, 7, 7, 7, 7, 7, 7, 7, 7, 7, 7, 7, 7, 7, 7, 7, 7, 7, 7, 7, 7, 7, 7, 7, 7, 7, 7, 7, 7, 7, 7, 7, 7, 7, 7, 7, 7, 7, 7, 7, 7, 7, 7]).append ([8, 8, 8, 8, 8, 8, 8, 8, 8, 8, 8, 8, 8, 8, 8, 8, 8, 8, 8, 8, 8, 8, 8, 8, 8, 8, 8, 8, 8, 8, 8, 8, 8, 8, 8, 8, 8, 8, 8, 8, 8, 8, 8, 8, 8, 8, 8, 8, 8, 8, 8, 8, 8, 8, 8, 8, 8, 8, 8, 8, 8, 8, 8, 8].append [8, 8, 8, 8, 8, 8, 8, 8, 8, 8, 8, 8, 8, 8, 8, 8, 8, 8, 8, 8, 8, 8, 8, 8, 8, 8, 8, 8, 8, 8, 8, 8, 8, 8, 8, 8, 8, 8, 8, 8, 8, 8, 8, 8, 8, 8, 8, 8, 8, 8, 8, 8, 8, 8, 8, 8, 8, 8, 8, 8, 8, 8, 8, 8])).toArray }
/- convoy/tick.Is -/
noncomputable def c27 : Cfg := ⟨27, Try.f27, [(.int .i64)], [.bool], 4, [], []⟩
noncomputable def T27 (_ : Nat) : Tab := ⟨[], []⟩
noncomputable def e27 (n : Nat) : Entry := c27.entry Try.prog (T27 n) n
theorem ok27 (n : Nat) : FnOK Try.prog (e27 n) := c27.sound .nil n Try.func27 (by kernel_rfl) (by kernel_rfl)
noncomputable def f27 (n : Nat) (t : Int) : Option (Bool) := c27.f Try.prog (T27 n) n t
theorem f27_eq (n : Nat) (t : Int) : f27 n t =
  bif decide (t ≥ (0 : Int)) then
   some (decide (t ≤ (4611686018427387904 : Int)))
  else
   some false := by kernel_rfl
/- convoy/tick.Age -/
noncomputable def c22 : Cfg := ⟨22, Try.f22, [(.int .i64), (.int .i64)], [(.int .i64), (.int .i64)], 5, [], []⟩
noncomputable def T22 (n : Nat) : Tab := ⟨[e27 n], []⟩
noncomputable def e22 (n : Nat) : Entry := c22.entry Try.prog (T22 n) n
theorem ok22 (n : Nat) : FnOK Try.prog (e22 n) := c22.sound (.cons (ok27 n) .nil) n Try.func22 (by kernel_rfl) (by kernel_rfl)
noncomputable def f22 (n : Nat) (now : Int) (a1 : Int) : Option (Int × Int) := c22.f Try.prog (T22 n) n (now, a1)
theorem f22_eq (n : Nat) (now : Int) (a1 : Int) : f22 n now a1 =
  (f27 n now).bind fun r1 =>
  bif !r1 then
   some ((0 : Int), (10 : Int))
  else
   (f27 n a1).bind fun r2 =>
   bif !r2 then
    some ((0 : Int), (10 : Int))
   else
    bif decide (now < a1) then
     some ((0 : Int), (1 : Int))
    else
     some (Go.IntKind.i64.wrap (now - a1), (0 : Int)) := by kernel_rfl
/- convoy/convoyref01.Is -/
noncomputable def c28 : Cfg := ⟨28, Try.f28, [(.int .i64)], [.bool], 4, [], []⟩
noncomputable def T28 (_ : Nat) : Tab := ⟨[], []⟩
noncomputable def e28 (n : Nat) : Entry := c28.entry Try.prog (T28 n) n
theorem ok28 (n : Nat) : FnOK Try.prog (e28 n) := c28.sound .nil n Try.func28 (by kernel_rfl) (by kernel_rfl)
noncomputable def f28 (n : Nat) (t : Int) : Option (Bool) := c28.f Try.prog (T28 n) n t
theorem f28_eq (n : Nat) (t : Int) : f28 n t =
  bif decide (t ≥ (0 : Int)) then
   some (decide (t ≤ (4611686018427387904 : Int)))
  else
   some false := by kernel_rfl
/- convoy/convoyref01.Age -/
noncomputable def c23 : Cfg := ⟨23, Try.f23, [(.int .i64), (.int .i64)], [(.int .i64), (.int .i64)], 5, [], []⟩
noncomputable def T23 (n : Nat) : Tab := ⟨[e28 n], []⟩
noncomputable def e23 (n : Nat) : Entry := c23.entry Try.prog (T23 n) n
theorem ok23 (n : Nat) : FnOK Try.prog (e23 n) := c23.sound (.cons (ok28 n) .nil) n Try.func23 (by kernel_rfl) (by kernel_rfl)
noncomputable def f23 (n : Nat) (now : Int) (a1 : Int) : Option (Int × Int) := c23.f Try.prog (T23 n) n (now, a1)
theorem f23_eq (n : Nat) (now : Int) (a1 : Int) : f23 n now a1 =
  (f28 n now).bind fun r1 =>
  bif !r1 then
   some ((0 : Int), (10 : Int))
  else
   (f28 n a1).bind fun r2 =>
   bif !r2 then
    some ((0 : Int), (10 : Int))
   else
    bif decide (now < a1) then
     some ((0 : Int), (1 : Int))
    else
     some (Go.IntKind.i64.wrap (now - a1), (0 : Int)) := by kernel_rfl
/- convoy/tick.Sum -/
noncomputable def c35 : Cfg := ⟨35, Try.f35, [(.sl 2 (.int .i64))], [(.int .u64), (.int .u64), (.int .i64)], 5, [], [(6, ⟨31, 5, [(5, (.val (.int .u64))), (6, (.val (.int .u64))), (10, (.val (.sl 2 (.int .i64)))), (11, (.val (.int .i64))), (12, (.val (.int .i64)))], []⟩)]⟩
noncomputable def T35 (n : Nat) : Tab := ⟨[e75 n], []⟩
noncomputable def e35 (n : Nat) : Entry := c35.entry Try.prog (T35 n) n
theorem ok35 (n : Nat) : FnOK Try.prog (e35 n) := c35.sound (.cons (ok75 n) .nil) n Try.func35 (by kernel_rfl) (by kernel_rfl)
noncomputable def f35 (n : Nat) (times : List Int) : Option (Int × Int × Int) := c35.f Try.prog (T35 n) n times
noncomputable def f35_6 (n m : Nat) (high : Int) (low : Int) (x10 : List Int) (x11 : Int) (x12 : Int) : Option (Int × Int × Int) := c35.LL Try.prog (T35 n) m 6 (high, low, x10, x11, x12) ()
theorem f35_6_zero (n : Nat) (high : Int) (low : Int) (x10 : List Int) (x11 : Int) (x12 : Int) : f35_6 n 0 high low x10 x11 x12 = none := rfl
theorem f35_6_eq (n m : Nat) (high : Int) (low : Int) (x10 : List Int) (x11 : Int) (x12 : Int) : f35_6 n (m + 1) high low x10 x11 x12 =
  bif decide (x12 < x11) then
   bif decide ((0 : Int) ≤ x12 ∧ x12 < ↑x10.length) then
    bif decide (x10.getD x12.toNat (0 : Int) < (0 : Int)) then
     some ((0 : Int), (0 : Int), (11 : Int))
    else
     (f75 n low (Go.IntKind.u64.wrap (x10.getD x12.toNat (0 : Int))) (0 : Int)).bind fun r1 =>
     f35_6 n m (Go.IntKind.u64.wrap (high + r1.snd)) r1.fst x10 x11 (Go.IntKind.i64.wrap (x12 + (1 : Int)))
   else
    none
  else
   some (high, low, (0 : Int)) := by kernel_rfl
theorem f35_eq (n : Nat) (times : List Int) : f35 n times =
  f35_6 n n (0 : Int) (0 : Int) times ↑times.length (0 : Int) := by kernel_rfl
/- convoy/tick.Within -/
noncomputable def c24 : Cfg := ⟨24, Try.f24, [(.int .i64), (.int .i64), (.sl 2 (.int .i64))], [.bool, (.int .i64)], 6, [], []⟩
noncomputable def T24 (n : Nat) : Tab := ⟨[e22 n, e35 n], []⟩
noncomputable def e24 (n : Nat) : Entry := c24.entry Try.prog (T24 n) n
theorem ok24 (n : Nat) : FnOK Try.prog (e24 n) := c24.sound (.cons (ok22 n) (.cons (ok35 n) .nil)) n Try.func24 (by kernel_rfl) (by kernel_rfl)
noncomputable def f24 (n : Nat) (now : Int) (a1 : Int) (times : List Int) : Option (Bool × Int) := c24.f Try.prog (T24 n) n (now, a1, times)
theorem f24_eq (n : Nat) (now : Int) (a1 : Int) (times : List Int) : f24 n now a1 times =
  (f22 n now a1).bind fun r1 =>
  bif r1.snd != (0 : Int) then
   some (false, r1.snd)
  else
   (f35 n times).bind fun r2 =>
   bif r2.snd.snd != (0 : Int) then
    some (false, r2.snd.snd)
   else
    bif decide (r2.fst > (0 : Int)) then
     some (true, (0 : Int))
    else
     some (decide (Go.IntKind.u64.wrap r1.fst < r2.snd.fst), (0 : Int)) := by kernel_rfl
/- convoy/convoyref01.Sum -/
noncomputable def c36 : Cfg := ⟨36, Try.f36, [(.sl 2 (.int .i64))], [(.int .u64), (.int .u64), (.int .i64)], 6, [], [(6, ⟨42, 6, [(0, (.val (.sl 2 (.int .i64)))), (5, (.val (.int .u64))), (6, (.val (.int .u64))), (7, (.val (.int .i64)))], []⟩), (16, ⟨42, 6, [(0, (.val (.sl 2 (.int .i64)))), (5, (.val (.int .u64))), (6, (.val (.int .u64))), (8, (.val (.int .i64)))], []⟩)]⟩
noncomputable def T36 (_ : Nat) : Tab := ⟨[], []⟩
noncomputable def e36 (n : Nat) : Entry := c36.entry Try.prog (T36 n) n
theorem ok36 (n : Nat) : FnOK Try.prog (e36 n) := c36.sound .nil n Try.func36 (by kernel_rfl) (by kernel_rfl)
noncomputable def f36 (n : Nat) (times : List Int) : Option (Int × Int × Int) := c36.f Try.prog (T36 n) n times
noncomputable def f36_6 (n m : Nat) (times : List Int) (hi : Int) (lo : Int) (i : Int) : Option (Int × Int × Int) := c36.LL Try.prog (T36 n) m 6 (times, hi, lo, i) ()
noncomputable def f36_16 (n m : Nat) (times : List Int) (hi : Int) (lo : Int) (i : Int) : Option (Int × Int × Int) := c36.LL Try.prog (T36 n) m 16 (times, hi, lo, i) ()
theorem f36_6_zero (n : Nat) (times : List Int) (hi : Int) (lo : Int) (i : Int) : f36_6 n 0 times hi lo i = none := rfl
theorem f36_6_eq (n m : Nat) (times : List Int) (hi : Int) (lo : Int) (i : Int) : f36_6 n (m + 1) times hi lo i =
  bif decide (i < ↑times.length) then
   bif decide ((0 : Int) ≤ i ∧ i < ↑times.length) then
    bif decide (times.getD i.toNat (0 : Int) < (0 : Int)) then
     some ((0 : Int), (0 : Int), (11 : Int))
    else
     f36_6 n m times hi lo (Go.IntKind.i64.wrap (i + (1 : Int)))
   else
    none
  else
   f36_16 n m times hi lo (0 : Int) := by kernel_rfl
theorem f36_16_zero (n : Nat) (times : List Int) (hi : Int) (lo : Int) (i : Int) : f36_16 n 0 times hi lo i = none := rfl
theorem f36_16_eq (n m : Nat) (times : List Int) (hi : Int) (lo : Int) (i : Int) : f36_16 n (m + 1) times hi lo i =
  bif decide (i < ↑times.length) then
   bif decide ((0 : Int) ≤ i ∧ i < ↑times.length) then
    bif decide (Go.IntKind.u64.wrap (lo + Go.IntKind.u64.wrap (times.getD i.toNat (0 : Int))) < lo) then
     f36_16 n m times (Go.IntKind.u64.wrap (hi + (1 : Int))) (Go.IntKind.u64.wrap (lo + Go.IntKind.u64.wrap (times.getD i.toNat (0 : Int)))) (Go.IntKind.i64.wrap (i + (1 : Int)))
    else
     f36_16 n m times hi (Go.IntKind.u64.wrap (lo + Go.IntKind.u64.wrap (times.getD i.toNat (0 : Int)))) (Go.IntKind.i64.wrap (i + (1 : Int)))
   else
    none
  else
   some (hi, lo, (0 : Int)) := by kernel_rfl
theorem f36_eq (n : Nat) (times : List Int) : f36 n times =
  f36_6 n n times (0 : Int) (0 : Int) (0 : Int) := by kernel_rfl
/- convoy/convoyref01.Within -/
noncomputable def c25 : Cfg := ⟨25, Try.f25, [(.int .i64), (.int .i64), (.sl 2 (.int .i64))], [.bool, (.int .i64)], 6, [], []⟩
noncomputable def T25 (n : Nat) : Tab := ⟨[e23 n, e36 n], []⟩
noncomputable def e25 (n : Nat) : Entry := c25.entry Try.prog (T25 n) n
theorem ok25 (n : Nat) : FnOK Try.prog (e25 n) := c25.sound (.cons (ok23 n) (.cons (ok36 n) .nil)) n Try.func25 (by kernel_rfl) (by kernel_rfl)
noncomputable def f25 (n : Nat) (now : Int) (a1 : Int) (times : List Int) : Option (Bool × Int) := c25.f Try.prog (T25 n) n (now, a1, times)
theorem f25_eq (n : Nat) (now : Int) (a1 : Int) (times : List Int) : f25 n now a1 times =
  (f23 n now a1).bind fun r1 =>
  bif r1.snd != (0 : Int) then
   some (false, r1.snd)
  else
   (f36 n times).bind fun r2 =>
   bif r2.snd.snd != (0 : Int) then
    some (false, r2.snd.snd)
   else
    bif decide (r2.fst > (0 : Int)) then
     some (true, (0 : Int))
    else
     some (decide (Go.IntKind.u64.wrap r1.fst < r2.snd.fst), (0 : Int)) := by kernel_rfl
/- convoy/tick.Mix -/
noncomputable def c29 : Cfg := ⟨29, Try.f29, [(.int .u64)], [(.int .u64)], 5, [], []⟩
noncomputable def T29 (_ : Nat) : Tab := ⟨[], []⟩
noncomputable def e29 (n : Nat) : Entry := c29.entry Try.prog (T29 n) n
theorem ok29 (n : Nat) : FnOK Try.prog (e29 n) := c29.sound .nil n Try.func29 (by kernel_rfl) (by kernel_rfl)
noncomputable def f29 (n : Nat) (x : Int) : Option (Int) := c29.f Try.prog (T29 n) n x
theorem f29_eq (n : Nat) (x : Int) : f29 n x =
  some (Go.IntKind.u64.wrap ↑(BitVec.ofInt (64 : Nat) (Go.IntKind.u64.wrap (Go.IntKind.u64.wrap ↑(BitVec.ofInt (64 : Nat) (Go.IntKind.u64.wrap (Go.IntKind.u64.wrap ↑(BitVec.ofInt (64 : Nat) x ^^^ BitVec.ofInt (64 : Nat) (x.fdiv ((2 : Int) ^ (30 : Nat)))).toNat * (13787848793156543929 : Int))) ^^^ BitVec.ofInt (64 : Nat) ((Go.IntKind.u64.wrap (Go.IntKind.u64.wrap ↑(BitVec.ofInt (64 : Nat) x ^^^ BitVec.ofInt (64 : Nat) (x.fdiv ((2 : Int) ^ (30 : Nat)))).toNat * (13787848793156543929 : Int))).fdiv ((2 : Int) ^ (27 : Nat)))).toNat * (10723151780598845931 : Int))) ^^^ BitVec.ofInt (64 : Nat) ((Go.IntKind.u64.wrap (Go.IntKind.u64.wrap ↑(BitVec.ofInt (64 : Nat) (Go.IntKind.u64.wrap (Go.IntKind.u64.wrap ↑(BitVec.ofInt (64 : Nat) x ^^^ BitVec.ofInt (64 : Nat) (x.fdiv ((2 : Int) ^ (30 : Nat)))).toNat * (13787848793156543929 : Int))) ^^^ BitVec.ofInt (64 : Nat) ((Go.IntKind.u64.wrap (Go.IntKind.u64.wrap ↑(BitVec.ofInt (64 : Nat) x ^^^ BitVec.ofInt (64 : Nat) (x.fdiv ((2 : Int) ^ (30 : Nat)))).toNat * (13787848793156543929 : Int))).fdiv ((2 : Int) ^ (27 : Nat)))).toNat * (10723151780598845931 : Int))).fdiv ((2 : Int) ^ (31 : Nat)))).toNat) := by kernel_rfl
/- convoy/convoylaw01.awake -/
noncomputable def c26 : Cfg := ⟨26, Try.f26, [], [.bool], 5, [], []⟩
noncomputable def T26 (n : Nat) : Tab := ⟨[e24 n, e29 n], []⟩
noncomputable def e26 (n : Nat) : Entry := c26.entry Try.prog (T26 n) n
theorem ok26 (n : Nat) : FnOK Try.prog (e26 n) := c26.sound (.cons (ok24 n) (.cons (ok29 n) .nil)) n Try.func26 (by kernel_rfl) (by kernel_rfl)
noncomputable def f26 (n : Nat) : Option (Bool) := c26.f Try.prog (T26 n) n ()
theorem f26_eq (n : Nat) : f26 n =
  (f24 n (5 : Int) (0 : Int) [(5 : Int), (1 : Int)]).bind fun r1 =>
  (f24 n (5 : Int) (0 : Int) [(5 : Int)]).bind fun r2 =>
  bif r1.fst then
   bif !r2.fst then
    bif r1.snd == (0 : Int) then
     bif r2.snd == (0 : Int) then
      (f29 n (1 : Int)).bind fun r3 =>
      some (r3 != (0 : Int))
     else
      some false
    else
     some false
   else
    some false
  else
   some false := by kernel_rfl
/- convoy/convoylaw01.TickAges -/
noncomputable def c4 : Cfg := ⟨4, Try.f4, [(.int .i64), (.int .i64), (.sl 2 (.int .i64))], [.bool], 7, [], []⟩
noncomputable def T4 (n : Nat) : Tab := ⟨[e22 n, e23 n, e24 n, e25 n, e26 n, e27 n, e28 n], []⟩
noncomputable def e4 (n : Nat) : Entry := c4.entry Try.prog (T4 n) n
theorem ok4 (n : Nat) : FnOK Try.prog (e4 n) := c4.sound (.cons (ok22 n) (.cons (ok23 n) (.cons (ok24 n) (.cons (ok25 n) (.cons (ok26 n) (.cons (ok27 n) (.cons (ok28 n) .nil))))))) n Try.func4 (by kernel_rfl) (by kernel_rfl)
noncomputable def f4 (n : Nat) (now : Int) (a1 : Int) (times : List Int) : Option (Bool) := c4.f Try.prog (T4 n) n (now, a1, times)
theorem f4_eq (n : Nat) (now : Int) (a1 : Int) (times : List Int) : f4 n now a1 times =
  (f22 n now a1).bind fun r1 =>
  (f23 n now a1).bind fun r2 =>
  (f24 n now a1 times).bind fun r3 =>
  (f25 n now a1 times).bind fun r4 =>
  (f26 n).bind fun r5 =>
  bif r5 then
   bif r1.fst == r2.fst then
    bif r1.snd == r2.snd then
     bif r3.fst == r4.fst then
      bif r3.snd == r4.snd then
       (f27 n now).bind fun r6 =>
       (f28 n now).bind fun r7 =>
       some (r6 == r7)
      else
       some false
     else
      some false
    else
     some false
   else
    some false
  else
   some false := by kernel_rfl
/- convoy/convoyref01.Mix -/
noncomputable def c30 : Cfg := ⟨30, Try.f30, [(.int .u64)], [(.int .u64)], 5, [], []⟩
noncomputable def T30 (_ : Nat) : Tab := ⟨[], []⟩
noncomputable def e30 (n : Nat) : Entry := c30.entry Try.prog (T30 n) n
theorem ok30 (n : Nat) : FnOK Try.prog (e30 n) := c30.sound .nil n Try.func30 (by kernel_rfl) (by kernel_rfl)
noncomputable def f30 (n : Nat) (x : Int) : Option (Int) := c30.f Try.prog (T30 n) n x
theorem f30_eq (n : Nat) (x : Int) : f30 n x =
  some (Go.IntKind.u64.wrap ↑(BitVec.ofInt (64 : Nat) (Go.IntKind.u64.wrap (Go.IntKind.u64.wrap ↑(BitVec.ofInt (64 : Nat) (Go.IntKind.u64.wrap (Go.IntKind.u64.wrap ↑(BitVec.ofInt (64 : Nat) x ^^^ BitVec.ofInt (64 : Nat) (Go.IntKind.u64.wrap (x.tdiv (1073741824 : Int)))).toNat * (13787848793156543929 : Int))) ^^^ BitVec.ofInt (64 : Nat) (Go.IntKind.u64.wrap ((Go.IntKind.u64.wrap (Go.IntKind.u64.wrap ↑(BitVec.ofInt (64 : Nat) x ^^^ BitVec.ofInt (64 : Nat) (Go.IntKind.u64.wrap (x.tdiv (1073741824 : Int)))).toNat * (13787848793156543929 : Int))).tdiv (134217728 : Int)))).toNat * (10723151780598845931 : Int))) ^^^ BitVec.ofInt (64 : Nat) (Go.IntKind.u64.wrap ((Go.IntKind.u64.wrap (Go.IntKind.u64.wrap ↑(BitVec.ofInt (64 : Nat) (Go.IntKind.u64.wrap (Go.IntKind.u64.wrap ↑(BitVec.ofInt (64 : Nat) x ^^^ BitVec.ofInt (64 : Nat) (Go.IntKind.u64.wrap (x.tdiv (1073741824 : Int)))).toNat * (13787848793156543929 : Int))) ^^^ BitVec.ofInt (64 : Nat) (Go.IntKind.u64.wrap ((Go.IntKind.u64.wrap (Go.IntKind.u64.wrap ↑(BitVec.ofInt (64 : Nat) x ^^^ BitVec.ofInt (64 : Nat) (Go.IntKind.u64.wrap (x.tdiv (1073741824 : Int)))).toNat * (13787848793156543929 : Int))).tdiv (134217728 : Int)))).toNat * (10723151780598845931 : Int))).tdiv (2147483648 : Int)))).toNat) := by kernel_rfl
/- convoy/tick.Hash -/
noncomputable def c31 : Cfg := ⟨31, Try.f31, [.str, (.int .u64)], [(.int .u64)], 5, [], [(6, ⟨24, 5, [(0, (.val .str)), (5, (.val (.int .u64))), (10, (.val (.int .i64))), (11, (.val (.int .i64)))], []⟩)]⟩
noncomputable def T31 (n : Nat) : Tab := ⟨[e29 n], []⟩
noncomputable def e31 (n : Nat) : Entry := c31.entry Try.prog (T31 n) n
theorem ok31 (n : Nat) : FnOK Try.prog (e31 n) := c31.sound (.cons (ok29 n) .nil) n Try.func31 (by kernel_rfl) (by kernel_rfl)
noncomputable def f31 (n : Nat) (s : ByteArray) (seed : Int) : Option (Int) := c31.f Try.prog (T31 n) n (s, seed)
noncomputable def f31_6 (n m : Nat) (s : ByteArray) (h : Int) (x10 : Int) (x11 : Int) : Option (Int) := c31.LL Try.prog (T31 n) m 6 (s, h, x10, x11) ()
theorem f31_6_zero (n : Nat) (s : ByteArray) (h : Int) (x10 : Int) (x11 : Int) : f31_6 n 0 s h x10 x11 = none := rfl
theorem f31_6_eq (n m : Nat) (s : ByteArray) (h : Int) (x10 : Int) (x11 : Int) : f31_6 n (m + 1) s h x10 x11 =
  bif decide (x11 < x10) then
   bif decide ((0 : Int) ≤ x11 ∧ x11 < ↑s.size) then
    f31_6 n m s (Go.IntKind.u64.wrap (Go.IntKind.u64.wrap ↑(BitVec.ofInt (64 : Nat) h ^^^ BitVec.ofInt (64 : Nat) (Go.IntKind.u64.wrap (Go.Rf.byteAt s x11))).toNat * (1099511628211 : Int))) x10 (Go.IntKind.i64.wrap (x11 + (1 : Int)))
   else
    none
  else
   (f29 n h).bind fun r1 =>
   some r1 := by kernel_rfl
theorem f31_eq (n : Nat) (s : ByteArray) (seed : Int) : f31 n s seed =
  f31_6 n n s (Go.IntKind.u64.wrap ↑(BitVec.ofInt (64 : Nat) seed ^^^ BitVec.ofInt (64 : Nat) (14695981039346656037 : Int)).toNat) ↑s.size (0 : Int) := by kernel_rfl
/- convoy/convoyref01.Hash -/
noncomputable def c32 : Cfg := ⟨32, Try.f32, [.str, (.int .u64)], [(.int .u64)], 5, [], [(6, ⟨25, 5, [(0, (.val .str)), (5, (.val (.int .u64))), (6, (.val (.int .i64)))], []⟩)]⟩
noncomputable def T32 (n : Nat) : Tab := ⟨[e30 n], []⟩
noncomputable def e32 (n : Nat) : Entry := c32.entry Try.prog (T32 n) n
theorem ok32 (n : Nat) : FnOK Try.prog (e32 n) := c32.sound (.cons (ok30 n) .nil) n Try.func32 (by kernel_rfl) (by kernel_rfl)
noncomputable def f32 (n : Nat) (s : ByteArray) (seed : Int) : Option (Int) := c32.f Try.prog (T32 n) n (s, seed)
noncomputable def f32_6 (n m : Nat) (s : ByteArray) (h : Int) (i : Int) : Option (Int) := c32.LL Try.prog (T32 n) m 6 (s, h, i) ()
theorem f32_6_zero (n : Nat) (s : ByteArray) (h : Int) (i : Int) : f32_6 n 0 s h i = none := rfl
theorem f32_6_eq (n m : Nat) (s : ByteArray) (h : Int) (i : Int) : f32_6 n (m + 1) s h i =
  bif decide (i < ↑s.size) then
   bif decide ((0 : Int) ≤ i ∧ i < ↑s.size) then
    f32_6 n m s (Go.IntKind.u64.wrap (Go.IntKind.u64.wrap ↑(BitVec.ofInt (64 : Nat) h ^^^ BitVec.ofInt (64 : Nat) (Go.IntKind.u64.wrap (Go.Rf.byteAt s i))).toNat * (1099511628211 : Int))) (Go.IntKind.i64.wrap (i + (1 : Int)))
   else
    none
  else
   (f30 n h).bind fun r1 =>
   some r1 := by kernel_rfl
theorem f32_eq (n : Nat) (s : ByteArray) (seed : Int) : f32 n s seed =
  f32_6 n n s (Go.IntKind.u64.wrap ↑(BitVec.ofInt (64 : Nat) seed ^^^ BitVec.ofInt (64 : Nat) (14695981039346656037 : Int)).toNat) (0 : Int) := by kernel_rfl
/- convoy/convoylaw01.TickMixes -/
noncomputable def c5 : Cfg := ⟨5, Try.f5, [(.int .u64), (.int .u64), .str], [.bool], 6, [], []⟩
noncomputable def T5 (n : Nat) : Tab := ⟨[e26 n, e29 n, e30 n, e31 n, e32 n], []⟩
noncomputable def e5 (n : Nat) : Entry := c5.entry Try.prog (T5 n) n
theorem ok5 (n : Nat) : FnOK Try.prog (e5 n) := c5.sound (.cons (ok26 n) (.cons (ok29 n) (.cons (ok30 n) (.cons (ok31 n) (.cons (ok32 n) .nil))))) n Try.func5 (by kernel_rfl) (by kernel_rfl)
noncomputable def f5 (n : Nat) (x : Int) (y : Int) (s : ByteArray) : Option (Bool) := c5.f Try.prog (T5 n) n (x, y, s)
theorem f5_eq (n : Nat) (x : Int) (y : Int) (s : ByteArray) : f5 n x y s =
  (f26 n).bind fun r1 =>
  bif r1 then
   (f29 n x).bind fun r2 =>
   (f30 n x).bind fun r3 =>
   bif r2 == r3 then
    (f29 n x).bind fun r4 =>
    (f29 n y).bind fun r5 =>
    bif (x == y) == (r4 == r5) then
     (f31 n s x).bind fun r6 =>
     (f32 n s x).bind fun r7 =>
     some (r6 == r7)
    else
     some false
   else
    some false
  else
   some false := by kernel_rfl
/- convoy/tick.After -/
noncomputable def c33 : Cfg := ⟨33, Try.f33, [(.int .i64), (.int .i64)], [(.int .i64), .bool], 5, [], []⟩
noncomputable def T33 (n : Nat) : Tab := ⟨[e27 n], []⟩
noncomputable def e33 (n : Nat) : Entry := c33.entry Try.prog (T33 n) n
theorem ok33 (n : Nat) : FnOK Try.prog (e33 n) := c33.sound (.cons (ok27 n) .nil) n Try.func33 (by kernel_rfl) (by kernel_rfl)
noncomputable def f33 (n : Nat) (t : Int) (d : Int) : Option (Int × Bool) := c33.f Try.prog (T33 n) n (t, d)
theorem f33_eq (n : Nat) (t : Int) (d : Int) : f33 n t d =
  (f27 n t).bind fun r1 =>
  bif !r1 then
   some ((0 : Int), false)
  else
   bif decide (d < (0 : Int)) then
    some ((0 : Int), false)
   else
    bif decide (d > Go.IntKind.i64.wrap ((4611686018427387904 : Int) - t)) then
     some ((4611686018427387904 : Int), false)
    else
     some (Go.IntKind.i64.wrap (t + d), true) := by kernel_rfl
/- convoy/convoyref01.After -/
noncomputable def c34 : Cfg := ⟨34, Try.f34, [(.int .i64), (.int .i64)], [(.int .i64), .bool], 5, [], []⟩
noncomputable def T34 (n : Nat) : Tab := ⟨[e28 n], []⟩
noncomputable def e34 (n : Nat) : Entry := c34.entry Try.prog (T34 n) n
theorem ok34 (n : Nat) : FnOK Try.prog (e34 n) := c34.sound (.cons (ok28 n) .nil) n Try.func34 (by kernel_rfl) (by kernel_rfl)
noncomputable def f34 (n : Nat) (t : Int) (d : Int) : Option (Int × Bool) := c34.f Try.prog (T34 n) n (t, d)
theorem f34_eq (n : Nat) (t : Int) (d : Int) : f34 n t d =
  (f28 n t).bind fun r1 =>
  bif !r1 then
   some ((0 : Int), false)
  else
   bif decide (d < (0 : Int)) then
    some ((0 : Int), false)
   else
    bif decide (d > Go.IntKind.i64.wrap ((4611686018427387904 : Int) - t)) then
     some ((4611686018427387904 : Int), false)
    else
     some (Go.IntKind.i64.wrap (t + d), true) := by kernel_rfl
/- convoy/convoylaw01.TickSums -/
noncomputable def c6 : Cfg := ⟨6, Try.f6, [(.int .i64), (.int .i64), (.sl 2 (.int .i64))], [.bool], 7, [], []⟩
noncomputable def T6 (n : Nat) : Tab := ⟨[e33 n, e34 n, e35 n, e36 n, e26 n], []⟩
noncomputable def e6 (n : Nat) : Entry := c6.entry Try.prog (T6 n) n
theorem ok6 (n : Nat) : FnOK Try.prog (e6 n) := c6.sound (.cons (ok33 n) (.cons (ok34 n) (.cons (ok35 n) (.cons (ok36 n) (.cons (ok26 n) .nil))))) n Try.func6 (by kernel_rfl) (by kernel_rfl)
noncomputable def f6 (n : Nat) (t : Int) (d : Int) (times : List Int) : Option (Bool) := c6.f Try.prog (T6 n) n (t, d, times)
theorem f6_eq (n : Nat) (t : Int) (d : Int) (times : List Int) : f6 n t d times =
  (f33 n t d).bind fun r1 =>
  (f34 n t d).bind fun r2 =>
  (f35 n times).bind fun r3 =>
  (f36 n times).bind fun r4 =>
  (f26 n).bind fun r5 =>
  bif r5 then
   bif r1.fst == r2.fst then
    bif r1.snd == r2.snd then
     bif r3.fst == r4.fst then
      bif r3.snd.fst == r4.snd.fst then
       some (r3.snd.snd == r4.snd.snd)
      else
       some false
     else
      some false
    else
     some false
   else
    some false
  else
   some false := by kernel_rfl
/- math/bits.Len64 -/
noncomputable def c80 : Cfg := ⟨80, Try.f80, [(.int .u64)], [(.int .i64)], 5, [4, 7], [(9, ⟨25, 5, [(0, (.val (.int .u64))), (2, (.val (.int .i64)))], []⟩), (15, ⟨25, 5, [(0, (.val (.int .u64))), (2, (.val (.int .i64)))], []⟩)]⟩
noncomputable def T80 (_ : Nat) : Tab := ⟨[], []⟩
noncomputable def e80 (n : Nat) : Entry := c80.entry Try.prog (T80 n) n
theorem ok80 (n : Nat) : FnOK Try.prog (e80 n) := c80.sound .nil n Try.func80 (by kernel_rfl) (by kernel_rfl)
noncomputable def f80 (n : Nat) (x : Int) : Option (Int) := c80.f Try.prog (T80 n) n x
noncomputable def f80_9 (n m : Nat) (x : Int) (x2 : Int) : Option (Int) := c80.LL Try.prog (T80 n) m 9 (x, x2) ()
noncomputable def f80_15 (n m : Nat) (x : Int) (x2 : Int) : Option (Int) := c80.LL Try.prog (T80 n) m 15 (x, x2) ()
theorem f80_9_zero (n : Nat) (x : Int) (x2 : Int) : f80_9 n 0 x x2 = none := rfl
theorem f80_9_eq (n m : Nat) (x : Int) (x2 : Int) : f80_9 n (m + 1) x x2 =
  bif decide (x ≥ (65536 : Int)) then
   f80_15 n m (x.fdiv ((2 : Int) ^ (16 : Nat))) (Go.IntKind.i64.wrap (x2 + (16 : Int)))
  else
   f80_15 n m x x2 := by kernel_rfl
theorem f80_15_zero (n : Nat) (x : Int) (x2 : Int) : f80_15 n 0 x x2 = none := rfl
theorem f80_15_eq (n m : Nat) (x : Int) (x2 : Int) : f80_15 n (m + 1) x x2 =
  bif decide (x ≥ (256 : Int)) then
   bif decide ((0 : Int) ≤ Go.IntKind.u8.wrap (x.fdiv ((2 : Int) ^ nat_lit 8)) ∧ Go.IntKind.u8.wrap (x.fdiv ((2 : Int) ^ nat_lit 8)) < ↑(ByteArray.size str0)) then
    some (Go.IntKind.i64.wrap (Go.IntKind.i64.wrap (x2 + (8 : Int)) + Go.IntKind.i64.wrap (Go.Rf.byteAt str0 (Go.IntKind.u8.wrap (x.fdiv ((2 : Int) ^ (8 : Nat)))))))
   else
    none
  else
   bif decide ((0 : Int) ≤ Go.IntKind.u8.wrap x ∧ Go.IntKind.u8.wrap x < ↑(ByteArray.size str0)) then
    some (Go.IntKind.i64.wrap (x2 + Go.IntKind.i64.wrap (Go.Rf.byteAt str0 (Go.IntKind.u8.wrap x))))
   else
    none := by kernel_rfl
theorem f80_eq (n : Nat) (x : Int) : f80 n x =
  bif decide (x ≥ (4294967296 : Int)) then
   f80_9 n n (x.fdiv ((2 : Int) ^ (32 : Nat))) (32 : Int)
  else
   f80_9 n n x (0 : Int) := by kernel_rfl
/- convoy/tick.Bucket -/
noncomputable def c45 : Cfg := ⟨45, Try.f45, [(.int .i64)], [(.int .i64), (.int .i64)], 4, [], []⟩
noncomputable def T45 (n : Nat) : Tab := ⟨[e80 n], []⟩
noncomputable def e45 (n : Nat) : Entry := c45.entry Try.prog (T45 n) n
theorem ok45 (n : Nat) : FnOK Try.prog (e45 n) := c45.sound (.cons (ok80 n) .nil) n Try.func45 (by kernel_rfl) (by kernel_rfl)
noncomputable def f45 (n : Nat) (d : Int) : Option (Int × Int) := c45.f Try.prog (T45 n) n d
theorem f45_eq (n : Nat) (d : Int) : f45 n d =
  bif decide (d < (0 : Int)) then
   some ((0 : Int), (11 : Int))
  else
   (f80 n (Go.IntKind.u64.wrap d)).bind fun r1 =>
   some (r1, (0 : Int)) := by kernel_rfl
/- convoy/convoyref01.Edges -/
noncomputable def c48 : Cfg := ⟨48, Try.f48, [(.int .i64)], [(.int .i64), (.int .i64), (.int .i64)], 5, [], [(14, ⟨27, 5, [(0, (.val (.int .i64))), (5, (.val (.int .i64))), (6, (.val (.int .i64)))], []⟩)]⟩
noncomputable def T48 (_ : Nat) : Tab := ⟨[], []⟩
noncomputable def e48 (n : Nat) : Entry := c48.entry Try.prog (T48 n) n
theorem ok48 (n : Nat) : FnOK Try.prog (e48 n) := c48.sound .nil n Try.func48 (by kernel_rfl) (by kernel_rfl)
noncomputable def f48 (n : Nat) (bucket : Int) : Option (Int × Int × Int) := c48.f Try.prog (T48 n) n bucket
noncomputable def f48_14 (n m : Nat) (bucket : Int) (least : Int) (i : Int) : Option (Int × Int × Int) := c48.LL Try.prog (T48 n) m 14 (bucket, least, i) ()
theorem f48_14_zero (n : Nat) (bucket : Int) (least : Int) (i : Int) : f48_14 n 0 bucket least i = none := rfl
theorem f48_14_eq (n m : Nat) (bucket : Int) (least : Int) (i : Int) : f48_14 n (m + 1) bucket least i =
  bif decide (i < bucket) then
   f48_14 n m bucket (Go.IntKind.i64.wrap (least * (2 : Int))) (Go.IntKind.i64.wrap (i + (1 : Int)))
  else
   some (least, Go.IntKind.i64.wrap (least + Go.IntKind.i64.wrap (least - (1 : Int))), (0 : Int)) := by kernel_rfl
theorem f48_eq (n : Nat) (bucket : Int) : f48 n bucket =
  bif decide (bucket < (0 : Int)) then
   some ((0 : Int), (0 : Int), (1 : Int))
  else
   bif decide (bucket > (63 : Int)) then
    some ((0 : Int), (0 : Int), (1 : Int))
   else
    bif bucket == (0 : Int) then
     some ((0 : Int), (0 : Int), (0 : Int))
    else
     f48_14 n n bucket (1 : Int) (1 : Int) := by kernel_rfl
/- convoy/convoyref01.Bucket -/
noncomputable def c46 : Cfg := ⟨46, Try.f46, [(.int .i64)], [(.int .i64), (.int .i64)], 5, [], [(8, ⟨29, 5, [(0, (.val (.int .i64))), (4, (.val (.int .i64)))], []⟩)]⟩
noncomputable def T46 (n : Nat) : Tab := ⟨[e48 n], []⟩
noncomputable def e46 (n : Nat) : Entry := c46.entry Try.prog (T46 n) n
theorem ok46 (n : Nat) : FnOK Try.prog (e46 n) := c46.sound (.cons (ok48 n) .nil) n Try.func46 (by kernel_rfl) (by kernel_rfl)
noncomputable def f46 (n : Nat) (d : Int) : Option (Int × Int) := c46.f Try.prog (T46 n) n d
noncomputable def f46_8 (n m : Nat) (d : Int) (b : Int) : Option (Int × Int) := c46.LL Try.prog (T46 n) m 8 (d, b) ()
theorem f46_8_zero (n : Nat) (d : Int) (b : Int) : f46_8 n 0 d b = none := rfl
theorem f46_8_eq (n m : Nat) (d : Int) (b : Int) : f46_8 n (m + 1) d b =
  bif decide (b < (64 : Int)) then
   (f48 n b).bind fun r1 =>
   bif decide (d ≥ r1.fst) then
    bif decide (d ≤ r1.snd.fst) then
     some (b, (0 : Int))
    else
     f46_8 n m d (Go.IntKind.i64.wrap (b + (1 : Int)))
   else
    f46_8 n m d (Go.IntKind.i64.wrap (b + (1 : Int)))
  else
   some ((0 : Int), (1 : Int)) := by kernel_rfl
theorem f46_eq (n : Nat) (d : Int) : f46 n d =
  bif decide (d < (0 : Int)) then
   some ((0 : Int), (11 : Int))
  else
   f46_8 n n d (0 : Int) := by kernel_rfl
/- convoy/tick.Edges -/
noncomputable def c47 : Cfg := ⟨47, Try.f47, [(.int .i64)], [(.int .i64), (.int .i64), (.int .i64)], 5, [], []⟩
noncomputable def T47 (_ : Nat) : Tab := ⟨[], []⟩
noncomputable def e47 (n : Nat) : Entry := c47.entry Try.prog (T47 n) n
theorem ok47 (n : Nat) : FnOK Try.prog (e47 n) := c47.sound .nil n Try.func47 (by kernel_rfl) (by kernel_rfl)
noncomputable def f47 (n : Nat) (bucket : Int) : Option (Int × Int × Int) := c47.f Try.prog (T47 n) n bucket
theorem f47_eq (n : Nat) (bucket : Int) : f47 n bucket =
  bif decide (bucket < (0 : Int)) then
   some ((0 : Int), (0 : Int), (1 : Int))
  else
   bif decide (bucket > (63 : Int)) then
    some ((0 : Int), (0 : Int), (1 : Int))
   else
    bif bucket == (0 : Int) then
     some ((0 : Int), (0 : Int), (0 : Int))
    else
     bif decide (Go.IntKind.i64.wrap (bucket - (1 : Int)) < (0 : Int)) then
      none
     else
      some (Go.IntKind.i64.wrap ((1 : Int) * (2 : Int) ^ Min.min (Go.IntKind.i64.wrap (bucket - (1 : Int))).toNat (64 : Nat)), Go.IntKind.i64.wrap (Go.IntKind.i64.wrap ((1 : Int) * (2 : Int) ^ Min.min (Go.IntKind.i64.wrap (bucket - (1 : Int))).toNat (64 : Nat)) + Go.IntKind.i64.wrap (Go.IntKind.i64.wrap ((1 : Int) * (2 : Int) ^ Min.min (Go.IntKind.i64.wrap (bucket - (1 : Int))).toNat (64 : Nat)) - (1 : Int))), (0 : Int)) := by kernel_rfl
/- convoy/convoylaw01.TickBuckets -/
noncomputable def c9 : Cfg := ⟨9, Try.f9, [(.int .i64), (.int .i64)], [.bool], 7, [], []⟩
noncomputable def T9 (n : Nat) : Tab := ⟨[e45 n, e46 n, e47 n, e48 n, e26 n], []⟩
noncomputable def e9 (n : Nat) : Entry := c9.entry Try.prog (T9 n) n
theorem ok9 (n : Nat) : FnOK Try.prog (e9 n) := c9.sound (.cons (ok45 n) (.cons (ok46 n) (.cons (ok47 n) (.cons (ok48 n) (.cons (ok26 n) .nil))))) n Try.func9 (by kernel_rfl) (by kernel_rfl)
noncomputable def f9 (n : Nat) (d : Int) (bucket : Int) : Option (Bool) := c9.f Try.prog (T9 n) n (d, bucket)
theorem f9_eq (n : Nat) (d : Int) (bucket : Int) : f9 n d bucket =
  (f45 n d).bind fun r1 =>
  (f46 n d).bind fun r2 =>
  (f47 n bucket).bind fun r3 =>
  (f48 n bucket).bind fun r4 =>
  (f26 n).bind fun r5 =>
  bif !r5 then
   some false
  else
   bif r1.fst != r2.fst then
    some false
   else
    bif r1.snd != r2.snd then
     some false
    else
     bif r3.fst != r4.fst then
      some false
     else
      bif r3.snd.fst != r4.snd.fst then
       some false
      else
       bif r3.snd.snd != r4.snd.snd then
        some false
       else
        (f47 n r1.fst).bind fun r6 =>
        bif r1.snd != (0 : Int) then
         some true
        else
         bif r6.snd.snd == (0 : Int) then
          bif decide (d ≥ r6.fst) then
           some (decide (d ≤ r6.snd.fst))
          else
           some false
         else
          some false := by kernel_rfl
/- convoy/tick.aligned -/
noncomputable def c86 : Cfg := ⟨86, Try.f86, [(.int .i64), (.int .i64)], [(.int .i64)], 4, [], []⟩
noncomputable def T86 (n : Nat) : Tab := ⟨[e27 n], []⟩
noncomputable def e86 (n : Nat) : Entry := c86.entry Try.prog (T86 n) n
theorem ok86 (n : Nat) : FnOK Try.prog (e86 n) := c86.sound (.cons (ok27 n) .nil) n Try.func86 (by kernel_rfl) (by kernel_rfl)
noncomputable def f86 (n : Nat) (t : Int) (a1 : Int) : Option (Int) := c86.f Try.prog (T86 n) n (t, a1)
theorem f86_eq (n : Nat) (t : Int) (a1 : Int) : f86 n t a1 =
  (f27 n t).bind fun r1 =>
  bif !r1 then
   some (10 : Int)
  else
   bif decide (a1 < (0 : Int)) then
    some (12 : Int)
   else
    bif decide (a1 > (62 : Int)) then
     some (12 : Int)
    else
     some (0 : Int) := by kernel_rfl
/- convoy/tick.Down -/
noncomputable def c54 : Cfg := ⟨54, Try.f54, [(.int .i64), (.int .i64)], [(.int .i64), (.int .i64)], 5, [], []⟩
noncomputable def T54 (n : Nat) : Tab := ⟨[e86 n], []⟩
noncomputable def e54 (n : Nat) : Entry := c54.entry Try.prog (T54 n) n
theorem ok54 (n : Nat) : FnOK Try.prog (e54 n) := c54.sound (.cons (ok86 n) .nil) n Try.func54 (by kernel_rfl) (by kernel_rfl)
noncomputable def f54 (n : Nat) (t : Int) (bits : Int) : Option (Int × Int) := c54.f Try.prog (T54 n) n (t, bits)
theorem f54_eq (n : Nat) (t : Int) (bits : Int) : f54 n t bits =
  (f86 n t bits).bind fun r1 =>
  bif r1 != (0 : Int) then
   some ((0 : Int), r1)
  else
   bif decide (bits < (0 : Int)) then
    none
   else
    bif decide (bits < (0 : Int)) then
     none
    else
     some (Go.IntKind.i64.wrap (t.fdiv ((2 : Int) ^ Min.min bits.toNat (64 : Nat)) * (2 : Int) ^ Min.min bits.toNat (64 : Nat)), (0 : Int)) := by kernel_rfl
/- convoy/convoyref01.Down -/
noncomputable def c55 : Cfg := ⟨55, Try.f55, [(.int .i64), (.int .i64)], [(.int .i64), (.int .i64)], 5, [], [(14, ⟨29, 5, [(0, (.val (.int .i64))), (1, (.val (.int .i64))), (6, (.val (.int .i64))), (7, (.val (.int .i64)))], []⟩)]⟩
noncomputable def T55 (n : Nat) : Tab := ⟨[e28 n], []⟩
noncomputable def e55 (n : Nat) : Entry := c55.entry Try.prog (T55 n) n
theorem ok55 (n : Nat) : FnOK Try.prog (e55 n) := c55.sound (.cons (ok28 n) .nil) n Try.func55 (by kernel_rfl) (by kernel_rfl)
noncomputable def f55 (n : Nat) (t : Int) (bits : Int) : Option (Int × Int) := c55.f Try.prog (T55 n) n (t, bits)
noncomputable def f55_14 (n m : Nat) (t : Int) (bits : Int) (unit : Int) (i : Int) : Option (Int × Int) := c55.LL Try.prog (T55 n) m 14 (t, bits, unit, i) ()
theorem f55_14_zero (n : Nat) (t : Int) (bits : Int) (unit : Int) (i : Int) : f55_14 n 0 t bits unit i = none := rfl
theorem f55_14_eq (n m : Nat) (t : Int) (bits : Int) (unit : Int) (i : Int) : f55_14 n (m + 1) t bits unit i =
  bif decide (i < bits) then
   f55_14 n m t bits (Go.IntKind.i64.wrap (unit * (2 : Int))) (Go.IntKind.i64.wrap (i + (1 : Int)))
  else
   bif decide (unit = (0 : Int)) then
    none
   else
    some (Go.IntKind.i64.wrap (t - t.tmod unit), (0 : Int)) := by kernel_rfl
theorem f55_eq (n : Nat) (t : Int) (bits : Int) : f55 n t bits =
  (f28 n t).bind fun r1 =>
  bif !r1 then
   some ((0 : Int), (10 : Int))
  else
   bif decide (bits < (0 : Int)) then
    some ((0 : Int), (12 : Int))
   else
    bif decide (bits > (62 : Int)) then
     some ((0 : Int), (12 : Int))
    else
     f55_14 n n t bits (1 : Int) (0 : Int) := by kernel_rfl
/- convoy/tick.Up -/
noncomputable def c56 : Cfg := ⟨56, Try.f56, [(.int .i64), (.int .i64)], [(.int .i64), (.int .i64)], 5, [], []⟩
noncomputable def T56 (n : Nat) : Tab := ⟨[e54 n], []⟩
noncomputable def e56 (n : Nat) : Entry := c56.entry Try.prog (T56 n) n
theorem ok56 (n : Nat) : FnOK Try.prog (e56 n) := c56.sound (.cons (ok54 n) .nil) n Try.func56 (by kernel_rfl) (by kernel_rfl)
noncomputable def f56 (n : Nat) (t : Int) (bits : Int) : Option (Int × Int) := c56.f Try.prog (T56 n) n (t, bits)
theorem f56_eq (n : Nat) (t : Int) (bits : Int) : f56 n t bits =
  (f54 n t bits).bind fun r1 =>
  bif r1.snd != (0 : Int) then
   some (r1.fst, r1.snd)
  else
   bif r1.fst == t then
    some (r1.fst, r1.snd)
   else
    bif decide (bits < (0 : Int)) then
     none
    else
     some (Go.IntKind.i64.wrap (r1.fst + Go.IntKind.i64.wrap ((1 : Int) * (2 : Int) ^ Min.min bits.toNat (64 : Nat))), (0 : Int)) := by kernel_rfl
/- convoy/convoyref01.Up -/
noncomputable def c57 : Cfg := ⟨57, Try.f57, [(.int .i64), (.int .i64)], [(.int .i64), (.int .i64)], 6, [], [(12, ⟨35, 6, [(1, (.val (.int .i64))), (6, (.val (.int .i64))), (8, (.val (.int .i64))), (9, (.val (.int .i64)))], []⟩)]⟩
noncomputable def T57 (n : Nat) : Tab := ⟨[e55 n], []⟩
noncomputable def e57 (n : Nat) : Entry := c57.entry Try.prog (T57 n) n
theorem ok57 (n : Nat) : FnOK Try.prog (e57 n) := c57.sound (.cons (ok55 n) .nil) n Try.func57 (by kernel_rfl) (by kernel_rfl)
noncomputable def f57 (n : Nat) (t : Int) (bits : Int) : Option (Int × Int) := c57.f Try.prog (T57 n) n (t, bits)
noncomputable def f57_12 (n m : Nat) (bits : Int) (d : Int) (unit : Int) (i : Int) : Option (Int × Int) := c57.LL Try.prog (T57 n) m 12 (bits, d, unit, i) ()
theorem f57_12_zero (n : Nat) (bits : Int) (d : Int) (unit : Int) (i : Int) : f57_12 n 0 bits d unit i = none := rfl
theorem f57_12_eq (n m : Nat) (bits : Int) (d : Int) (unit : Int) (i : Int) : f57_12 n (m + 1) bits d unit i =
  bif decide (i < bits) then
   f57_12 n m bits d (Go.IntKind.i64.wrap (unit * (2 : Int))) (Go.IntKind.i64.wrap (i + (1 : Int)))
  else
   some (Go.IntKind.i64.wrap (d + unit), (0 : Int)) := by kernel_rfl
theorem f57_eq (n : Nat) (t : Int) (bits : Int) : f57 n t bits =
  (f55 n t bits).bind fun r1 =>
  bif r1.snd != (0 : Int) then
   some (r1.fst, r1.snd)
  else
   bif r1.fst == t then
    some (r1.fst, r1.snd)
   else
    f57_12 n n bits r1.fst (1 : Int) (0 : Int) := by kernel_rfl
/- convoy/tick.Double -/
noncomputable def c58 : Cfg := ⟨58, Try.f58, [(.int .i64), (.int .i64), (.int .i64)], [(.int .i64), (.int .i64)], 6, [], []⟩
noncomputable def T58 (_ : Nat) : Tab := ⟨[], []⟩
noncomputable def e58 (n : Nat) : Entry := c58.entry Try.prog (T58 n) n
theorem ok58 (n : Nat) : FnOK Try.prog (e58 n) := c58.sound .nil n Try.func58 (by kernel_rfl) (by kernel_rfl)
noncomputable def f58 (n : Nat) (d : Int) (times : Int) (most : Int) : Option (Int × Int) := c58.f Try.prog (T58 n) n (d, times, most)
theorem f58_eq (n : Nat) (d : Int) (times : Int) (most : Int) : f58 n d times most =
  bif decide (d < (0 : Int)) then
   some ((0 : Int), (11 : Int))
  else
   bif decide (most < (0 : Int)) then
    some ((0 : Int), (11 : Int))
   else
    bif decide (times < (0 : Int)) then
     some ((0 : Int), (1 : Int))
    else
     bif d == (0 : Int) then
      some ((0 : Int), (0 : Int))
     else
      bif decide (times ≥ (63 : Int)) then
       some (most, (0 : Int))
      else
       bif decide (times < (0 : Int)) then
        none
       else
        bif decide (d > Int.fdiv (9223372036854775807 : Int) ((2 : Int) ^ Min.min times.toNat (64 : Nat))) then
         some (most, (0 : Int))
        else
         bif decide (times < (0 : Int)) then
          none
         else
          some (if most < Go.IntKind.i64.wrap (d * (2 : Int) ^ Min.min times.toNat (64 : Nat)) then most else Go.IntKind.i64.wrap (d * (2 : Int) ^ Min.min times.toNat (64 : Nat)), (0 : Int)) := by kernel_rfl
/- convoy/convoyref01.Double -/
noncomputable def c59 : Cfg := ⟨59, Try.f59, [(.int .i64), (.int .i64), (.int .i64)], [(.int .i64), (.int .i64)], 6, [], [(12, ⟨40, 6, [(0, (.val (.int .i64))), (1, (.val (.int .i64))), (2, (.val (.int .i64))), (8, (.val (.int .i64)))], []⟩)]⟩
noncomputable def T59 (_ : Nat) : Tab := ⟨[], []⟩
noncomputable def e59 (n : Nat) : Entry := c59.entry Try.prog (T59 n) n
theorem ok59 (n : Nat) : FnOK Try.prog (e59 n) := c59.sound .nil n Try.func59 (by kernel_rfl) (by kernel_rfl)
noncomputable def f59 (n : Nat) (d : Int) (times : Int) (most : Int) : Option (Int × Int) := c59.f Try.prog (T59 n) n (d, times, most)
noncomputable def f59_12 (n m : Nat) (d : Int) (times : Int) (most : Int) (i : Int) : Option (Int × Int) := c59.LL Try.prog (T59 n) m 12 (d, times, most, i) ()
theorem f59_12_zero (n : Nat) (d : Int) (times : Int) (most : Int) (i : Int) : f59_12 n 0 d times most i = none := rfl
theorem f59_12_eq (n m : Nat) (d : Int) (times : Int) (most : Int) (i : Int) : f59_12 n (m + 1) d times most i =
  bif decide (i < times) then
   bif decide (i < (64 : Int)) then
    bif decide (d > Go.IntKind.i64.wrap (most.tdiv (2 : Int))) then
     bif decide (d > (0 : Int)) then
      some (most, (0 : Int))
     else
      some ((0 : Int), (0 : Int))
    else
     f59_12 n m (Go.IntKind.i64.wrap (d * (2 : Int))) times most (Go.IntKind.i64.wrap (i + (1 : Int)))
   else
    bif decide (d > most) then
     some (most, (0 : Int))
    else
     some (d, (0 : Int))
  else
   bif decide (d > most) then
    some (most, (0 : Int))
   else
    some (d, (0 : Int)) := by kernel_rfl
theorem f59_eq (n : Nat) (d : Int) (times : Int) (most : Int) : f59 n d times most =
  bif decide (d < (0 : Int)) then
   some ((0 : Int), (11 : Int))
  else
   bif decide (most < (0 : Int)) then
    some ((0 : Int), (11 : Int))
   else
    bif decide (times < (0 : Int)) then
     some ((0 : Int), (1 : Int))
    else
     f59_12 n n d times most (0 : Int) := by kernel_rfl
/- convoy/convoylaw01.TickRounds -/
noncomputable def c11 : Cfg := ⟨11, Try.f11, [(.int .i64), (.int .i64), (.int .i64)], [.bool], 7, [], []⟩
noncomputable def T11 (n : Nat) : Tab := ⟨[e54 n, e55 n, e56 n, e57 n, e58 n, e59 n, e26 n], []⟩
noncomputable def e11 (n : Nat) : Entry := c11.entry Try.prog (T11 n) n
theorem ok11 (n : Nat) : FnOK Try.prog (e11 n) := c11.sound (.cons (ok54 n) (.cons (ok55 n) (.cons (ok56 n) (.cons (ok57 n) (.cons (ok58 n) (.cons (ok59 n) (.cons (ok26 n) .nil))))))) n Try.func11 (by kernel_rfl) (by kernel_rfl)
noncomputable def f11 (n : Nat) (t : Int) (bits : Int) (most : Int) : Option (Bool) := c11.f Try.prog (T11 n) n (t, bits, most)
theorem f11_eq (n : Nat) (t : Int) (bits : Int) (most : Int) : f11 n t bits most =
  (f54 n t bits).bind fun r1 =>
  (f55 n t bits).bind fun r2 =>
  (f56 n t bits).bind fun r3 =>
  (f57 n t bits).bind fun r4 =>
  (f58 n t bits most).bind fun r5 =>
  (f59 n t bits most).bind fun r6 =>
  (f26 n).bind fun r7 =>
  bif r7 then
   bif r1.fst == r2.fst then
    bif r1.snd == r2.snd then
     bif r3.fst == r4.fst then
      bif r3.snd == r4.snd then
       bif r5.fst == r6.fst then
        some (r5.snd == r6.snd)
       else
        some false
      else
       some false
     else
      some false
    else
     some false
   else
    some false
  else
   some false := by kernel_rfl
/- math/bits.Mul64 -/
noncomputable def c78 : Cfg := ⟨78, Try.f78, [(.int .u64), (.int .u64)], [(.int .u64), (.int .u64)], 6, [], []⟩
noncomputable def T78 (_ : Nat) : Tab := ⟨[], []⟩
noncomputable def e78 (n : Nat) : Entry := c78.entry Try.prog (T78 n) n
theorem ok78 (n : Nat) : FnOK Try.prog (e78 n) := c78.sound .nil n Try.func78 (by kernel_rfl) (by kernel_rfl)
noncomputable def f78 (n : Nat) (x : Int) (y : Int) : Option (Int × Int) := c78.f Try.prog (T78 n) n (x, y)
theorem f78_eq (n : Nat) (x : Int) (y : Int) : f78 n x y =
  some (Go.IntKind.u64.wrap (Go.IntKind.u64.wrap (Go.IntKind.u64.wrap (x.fdiv ((2 : Int) ^ (32 : Nat)) * y.fdiv ((2 : Int) ^ (32 : Nat))) + (Go.IntKind.u64.wrap (Go.IntKind.u64.wrap (x.fdiv ((2 : Int) ^ (32 : Nat)) * Go.IntKind.u64.wrap ↑(BitVec.ofInt (64 : Nat) y &&& BitVec.ofInt (64 : Nat) (4294967295 : Int)).toNat) + (Go.IntKind.u64.wrap (Go.IntKind.u64.wrap ↑(BitVec.ofInt (64 : Nat) x &&& BitVec.ofInt (64 : Nat) (4294967295 : Int)).toNat * Go.IntKind.u64.wrap ↑(BitVec.ofInt (64 : Nat) y &&& BitVec.ofInt (64 : Nat) (4294967295 : Int)).toNat)).fdiv ((2 : Int) ^ (32 : Nat)))).fdiv ((2 : Int) ^ (32 : Nat))) + (Go.IntKind.u64.wrap (Go.IntKind.u64.wrap ↑(BitVec.ofInt (64 : Nat) (Go.IntKind.u64.wrap (Go.IntKind.u64.wrap (x.fdiv ((2 : Int) ^ (32 : Nat)) * Go.IntKind.u64.wrap ↑(BitVec.ofInt (64 : Nat) y &&& BitVec.ofInt (64 : Nat) (4294967295 : Int)).toNat) + (Go.IntKind.u64.wrap (Go.IntKind.u64.wrap ↑(BitVec.ofInt (64 : Nat) x &&& BitVec.ofInt (64 : Nat) (4294967295 : Int)).toNat * Go.IntKind.u64.wrap ↑(BitVec.ofInt (64 : Nat) y &&& BitVec.ofInt (64 : Nat) (4294967295 : Int)).toNat)).fdiv ((2 : Int) ^ (32 : Nat)))) &&& BitVec.ofInt (64 : Nat) (4294967295 : Int)).toNat + Go.IntKind.u64.wrap (Go.IntKind.u64.wrap ↑(BitVec.ofInt (64 : Nat) x &&& BitVec.ofInt (64 : Nat) (4294967295 : Int)).toNat * y.fdiv ((2 : Int) ^ (32 : Nat))))).fdiv ((2 : Int) ^ (32 : Nat))), Go.IntKind.u64.wrap (x * y)) := by kernel_rfl
/- convoy/tick.Part -/
noncomputable def c60 : Cfg := ⟨60, Try.f60, [(.int .u64), (.int .i64)], [(.int .i64), (.int .i64)], 5, [], []⟩
noncomputable def T60 (n : Nat) : Tab := ⟨[e78 n], []⟩
noncomputable def e60 (n : Nat) : Entry := c60.entry Try.prog (T60 n) n
theorem ok60 (n : Nat) : FnOK Try.prog (e60 n) := c60.sound (.cons (ok78 n) .nil) n Try.func60 (by kernel_rfl) (by kernel_rfl)
noncomputable def f60 (n : Nat) (x : Int) (parts : Int) : Option (Int × Int) := c60.f Try.prog (T60 n) n (x, parts)
theorem f60_eq (n : Nat) (x : Int) (parts : Int) : f60 n x parts =
  bif decide (parts < (1 : Int)) then
   some ((0 : Int), (1 : Int))
  else
   (f78 n x (Go.IntKind.u64.wrap parts)).bind fun r1 =>
   some (Go.IntKind.i64.wrap r1.fst, (0 : Int)) := by kernel_rfl
/- convoy/convoyref01.High -/
noncomputable def c87 : Cfg := ⟨87, Try.f87, [(.int .u64), (.int .u64)], [(.int .u64)], 6, [], []⟩
noncomputable def T87 (_ : Nat) : Tab := ⟨[], []⟩
noncomputable def e87 (n : Nat) : Entry := c87.entry Try.prog (T87 n) n
theorem ok87 (n : Nat) : FnOK Try.prog (e87 n) := c87.sound .nil n Try.func87 (by kernel_rfl) (by kernel_rfl)
noncomputable def f87 (n : Nat) (x : Int) (y : Int) : Option (Int) := c87.f Try.prog (T87 n) n (x, y)
theorem f87_eq (n : Nat) (x : Int) (y : Int) : f87 n x y =
  some (Go.IntKind.u64.wrap (Go.IntKind.u64.wrap (Go.IntKind.u64.wrap (Go.IntKind.u64.wrap (x.tdiv (4294967296 : Int)) * Go.IntKind.u64.wrap (y.tdiv (4294967296 : Int))) + Go.IntKind.u64.wrap ((Go.IntKind.u64.wrap (Go.IntKind.u64.wrap (Go.IntKind.u64.wrap (x.tdiv (4294967296 : Int)) * y.tmod (4294967296 : Int)) + Go.IntKind.u64.wrap ((Go.IntKind.u64.wrap (x.tmod (4294967296 : Int) * y.tmod (4294967296 : Int))).tdiv (4294967296 : Int)))).tdiv (4294967296 : Int))) + Go.IntKind.u64.wrap ((Go.IntKind.u64.wrap (Go.IntKind.u64.wrap (x.tmod (4294967296 : Int) * Go.IntKind.u64.wrap (y.tdiv (4294967296 : Int))) + (Go.IntKind.u64.wrap (Go.IntKind.u64.wrap (Go.IntKind.u64.wrap (x.tdiv (4294967296 : Int)) * y.tmod (4294967296 : Int)) + Go.IntKind.u64.wrap ((Go.IntKind.u64.wrap (x.tmod (4294967296 : Int) * y.tmod (4294967296 : Int))).tdiv (4294967296 : Int)))).tmod (4294967296 : Int))).tdiv (4294967296 : Int)))) := by kernel_rfl
/- convoy/convoyref01.Part -/
noncomputable def c61 : Cfg := ⟨61, Try.f61, [(.int .u64), (.int .i64)], [(.int .i64), (.int .i64)], 4, [], []⟩
noncomputable def T61 (n : Nat) : Tab := ⟨[e87 n], []⟩
noncomputable def e61 (n : Nat) : Entry := c61.entry Try.prog (T61 n) n
theorem ok61 (n : Nat) : FnOK Try.prog (e61 n) := c61.sound (.cons (ok87 n) .nil) n Try.func61 (by kernel_rfl) (by kernel_rfl)
noncomputable def f61 (n : Nat) (x : Int) (parts : Int) : Option (Int × Int) := c61.f Try.prog (T61 n) n (x, parts)
theorem f61_eq (n : Nat) (x : Int) (parts : Int) : f61 n x parts =
  bif decide (parts < (1 : Int)) then
   some ((0 : Int), (1 : Int))
  else
   (f87 n x (Go.IntKind.u64.wrap parts)).bind fun r1 =>
   some (Go.IntKind.i64.wrap r1, (0 : Int)) := by kernel_rfl
/- convoy/tick.Fold -/
noncomputable def c62 : Cfg := ⟨62, Try.f62, [(.int .u64), (.int .i64)], [(.int .u64), (.int .i64)], 5, [], [(12, ⟨31, 5, [(0, (.val (.int .u64))), (1, (.val (.int .i64))), (6, (.val (.int .u64)))], []⟩)]⟩
noncomputable def T62 (_ : Nat) : Tab := ⟨[], []⟩
noncomputable def e62 (n : Nat) : Entry := c62.entry Try.prog (T62 n) n
theorem ok62 (n : Nat) : FnOK Try.prog (e62 n) := c62.sound .nil n Try.func62 (by kernel_rfl) (by kernel_rfl)
noncomputable def f62 (n : Nat) (x : Int) (bits : Int) : Option (Int × Int) := c62.f Try.prog (T62 n) n (x, bits)
noncomputable def f62_12 (n m : Nat) (x : Int) (bits : Int) (out : Int) : Option (Int × Int) := c62.LL Try.prog (T62 n) m 12 (x, bits, out) ()
theorem f62_12_zero (n : Nat) (x : Int) (bits : Int) (out : Int) : f62_12 n 0 x bits out = none := rfl
theorem f62_12_eq (n m : Nat) (x : Int) (bits : Int) (out : Int) : f62_12 n (m + 1) x bits out =
  bif decide (x > (0 : Int)) then
   bif decide (bits < (0 : Int)) then
    none
   else
    bif decide (bits < (0 : Int)) then
     none
    else
     f62_12 n m (x.fdiv ((2 : Int) ^ Min.min bits.toNat (64 : Nat))) bits (Go.IntKind.u64.wrap ↑(BitVec.ofInt (64 : Nat) out ^^^ BitVec.ofInt (64 : Nat) (Go.IntKind.u64.wrap ↑(BitVec.ofInt (64 : Nat) x &&& BitVec.ofInt (64 : Nat) (Go.IntKind.u64.wrap (Go.IntKind.u64.wrap ((1 : Int) * (2 : Int) ^ Min.min bits.toNat (64 : Nat)) - (1 : Int)))).toNat)).toNat)
  else
   some (out, (0 : Int)) := by kernel_rfl
theorem f62_eq (n : Nat) (x : Int) (bits : Int) : f62 n x bits =
  bif decide (bits < (1 : Int)) then
   some ((0 : Int), (12 : Int))
  else
   bif decide (bits > (64 : Int)) then
    some ((0 : Int), (12 : Int))
   else
    bif bits == (64 : Int) then
     some (x, (0 : Int))
    else
     f62_12 n n x bits (0 : Int) := by kernel_rfl
/- convoy/convoyref01.Fold -/
noncomputable def c63 : Cfg := ⟨63, Try.f63, [(.int .u64), (.int .i64)], [(.int .u64), (.int .i64)], 5, [], [(10, ⟨32, 5, [(0, (.val (.int .u64))), (1, (.val (.int .i64))), (6, (.val (.int .u64))), (7, (.val (.int .i64)))], []⟩)]⟩
noncomputable def T63 (_ : Nat) : Tab := ⟨[], []⟩
noncomputable def e63 (n : Nat) : Entry := c63.entry Try.prog (T63 n) n
theorem ok63 (n : Nat) : FnOK Try.prog (e63 n) := c63.sound .nil n Try.func63 (by kernel_rfl) (by kernel_rfl)
noncomputable def f63 (n : Nat) (x : Int) (bits : Int) : Option (Int × Int) := c63.f Try.prog (T63 n) n (x, bits)
noncomputable def f63_10 (n m : Nat) (x : Int) (bits : Int) (out : Int) (i : Int) : Option (Int × Int) := c63.LL Try.prog (T63 n) m 10 (x, bits, out, i) ()
theorem f63_10_zero (n : Nat) (x : Int) (bits : Int) (out : Int) (i : Int) : f63_10 n 0 x bits out i = none := rfl
theorem f63_10_eq (n m : Nat) (x : Int) (bits : Int) (out : Int) (i : Int) : f63_10 n (m + 1) x bits out i =
  bif decide (i < (64 : Int)) then
   bif decide (Go.IntKind.u64.wrap i < (0 : Int)) then
    none
   else
    bif (x.fdiv ((2 : Int) ^ Min.min (Go.IntKind.u64.wrap i).toNat (64 : Nat))).tmod (2 : Int) == (1 : Int) then
     bif decide (bits = (0 : Int)) then
      none
     else
      bif decide (Go.IntKind.u64.wrap (i.tmod bits) < (0 : Int)) then
       none
      else
       f63_10 n m x bits (Go.IntKind.u64.wrap ↑(BitVec.ofInt (64 : Nat) out ^^^ BitVec.ofInt (64 : Nat) (Go.IntKind.u64.wrap ((1 : Int) * (2 : Int) ^ Min.min (Go.IntKind.u64.wrap (i.tmod bits)).toNat (64 : Nat)))).toNat) (Go.IntKind.i64.wrap (i + (1 : Int)))
    else
     f63_10 n m x bits out (Go.IntKind.i64.wrap (i + (1 : Int)))
  else
   some (out, (0 : Int)) := by kernel_rfl
theorem f63_eq (n : Nat) (x : Int) (bits : Int) : f63 n x bits =
  bif decide (bits < (1 : Int)) then
   some ((0 : Int), (12 : Int))
  else
   bif decide (bits > (64 : Int)) then
    some ((0 : Int), (12 : Int))
   else
    f63_10 n n x bits (0 : Int) (0 : Int) := by kernel_rfl
/- convoy/convoylaw01.TickParts -/
noncomputable def c12 : Cfg := ⟨12, Try.f12, [(.int .u64), (.int .i64), (.int .i64)], [.bool], 7, [], []⟩
noncomputable def T12 (n : Nat) : Tab := ⟨[e60 n, e61 n, e62 n, e63 n, e26 n], []⟩
noncomputable def e12 (n : Nat) : Entry := c12.entry Try.prog (T12 n) n
theorem ok12 (n : Nat) : FnOK Try.prog (e12 n) := c12.sound (.cons (ok60 n) (.cons (ok61 n) (.cons (ok62 n) (.cons (ok63 n) (.cons (ok26 n) .nil))))) n Try.func12 (by kernel_rfl) (by kernel_rfl)
noncomputable def f12 (n : Nat) (x : Int) (parts : Int) (bits : Int) : Option (Bool) := c12.f Try.prog (T12 n) n (x, parts, bits)
theorem f12_eq (n : Nat) (x : Int) (parts : Int) (bits : Int) : f12 n x parts bits =
  (f60 n x parts).bind fun r1 =>
  (f61 n x parts).bind fun r2 =>
  (f62 n x bits).bind fun r3 =>
  (f63 n x bits).bind fun r4 =>
  (f26 n).bind fun r5 =>
  bif r5 then
   bif r1.fst == r2.fst then
    bif r1.snd == r2.snd then
     bif r3.fst == r4.fst then
      bif r3.snd == r4.snd then
       bif r1.snd != (0 : Int) then
        some true
       else
        bif decide (r1.fst ≥ (0 : Int)) then
         some (decide (r1.fst < parts))
        else
         some false
      else
       some false
     else
      some false
    else
     some false
   else
    some false
  else
   some false := by kernel_rfl
end Go.Proofs.Ytnlnfmakcnadlaa
