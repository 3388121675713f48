/- What functions compute: printed, and checked by the kernel. -/
import Derived.Test.YthdddaikdiaijaaDoorGw
namespace Go.Proofs.YthdddaikdiaijaaDoor
open Go.Rf
/- convoy/fail.Kinds -/
noncomputable def c8 : Cfg := ⟨8, Tryd.f8, [(.sl 25 (.agg (.pair (.int .i64) (.pair (.int .i64) (.int .i64)))))], [(.arr 6 (.int .i64))], 5, [], [(6, ⟨28, 5, [(2, (.ptr 1002 [])), (3, (.ptr 1003 [])), (6, (.val (.sl 25 (.agg (.pair (.int .i64) (.pair (.int .i64) (.int .i64))))))), (7, (.val (.int .i64))), (8, (.val (.int .i64)))], [(1002, .box (.val (.arr 6 (.int .i64)))), (1003, .box (.val (.arr 6 (.int .i64))))]⟩)]⟩
noncomputable def T8 (_ : Nat) : Tab := ⟨[], []⟩
noncomputable def e8 (n : Nat) : Entry := c8.entry Tryd.prog (T8 n) n
theorem ok8 {W0 : World} (n : Nat) : FnOK Tryd.prog W0 (e8 n) := c8.sound .nil n Tryd.func8 (by kernel_rfl) (by kernel_rfl)
noncomputable def f8 (n : Nat) (l : List (Int × (Int × Int))) : Option (List Int) := c8.f Tryd.prog (T8 n) n l
noncomputable def f8_6 (n m : Nat) (x6 : List (Int × (Int × Int))) (x7 : Int) (x8 : Int) (b1002 : List Int) (b1003 : List Int) : Option (List Int) := c8.LL Tryd.prog (T8 n) m 6 ((), (), x6, x7, x8) (b1002, b1003, ())
theorem f8_6_zero (n : Nat) (x6 : List (Int × (Int × Int))) (x7 : Int) (x8 : Int) (b1002 : List Int) (b1003 : List Int) : f8_6 n 0 x6 x7 x8 b1002 b1003 = none := rfl
theorem f8_6_eq (n m : Nat) (x6 : List (Int × (Int × Int))) (x7 : Int) (x8 : Int) (b1002 : List Int) (b1003 : List Int) : f8_6 n (m + 1) x6 x7 x8 b1002 b1003 =
  bif decide (x8 < x7) then
   bif decide ((0 : Int) ≤ x8 ∧ x8 < ↑x6.length) then
    bif decide ((x6.getD x8.toNat ((0 : Int), (0 : Int), (0 : Int))).fst ≥ (0 : Int)) then
     bif decide ((x6.getD x8.toNat ((0 : Int), (0 : Int), (0 : Int))).fst < (6 : Int)) then
      bif decide ((0 : Int) ≤ (x6.getD x8.toNat ((0 : Int), (0 : Int), (0 : Int))).fst ∧ (x6.getD x8.toNat ((0 : Int), (0 : Int), (0 : Int))).fst < ↑(6 : Nat)) then
       bif decide ((0 : Int) ≤ (x6.getD x8.toNat ((0 : Int), (0 : Int), (0 : Int))).fst ∧ (x6.getD x8.toNat ((0 : Int), (0 : Int), (0 : Int))).fst < ↑(6 : Nat)) then
        f8_6 n m x6 x7 (Go.IntKind.i64.wrap (x8 + (1 : Int))) b1002 (b1003.set (Int.toNat (x6.getD x8.toNat ((0 : Int), (0 : Int), (0 : Int))).fst) (Go.IntKind.i64.wrap (b1003.getD (Int.toNat (x6.getD x8.toNat ((0 : Int), (0 : Int), (0 : Int))).fst) (0 : Int) + (1 : Int))))
       else
        none
      else
       none
     else
      f8_6 n m x6 x7 (Go.IntKind.i64.wrap (x8 + (1 : Int))) b1002 b1003
    else
     f8_6 n m x6 x7 (Go.IntKind.i64.wrap (x8 + (1 : Int))) b1002 b1003
   else
    none
  else
   some b1003 := by kernel_rfl
theorem f8_eq (n : Nat) (l : List (Int × (Int × Int))) : f8 n l =
  f8_6 n n l ↑l.length (0 : Int) ([(0 : Int), (0 : Int), (0 : Int), (0 : Int), (0 : Int), (0 : Int)]) ([(0 : Int), (0 : Int), (0 : Int), (0 : Int), (0 : Int), (0 : Int)]) := by kernel_rfl
/- convoy/convoylaw03.FailKinds -/
noncomputable def c3 : Cfg := ⟨3, Tryd.f3, [(.sl 25 (.agg (.pair (.int .i64) (.pair (.int .i64) (.int .i64)))))], [.bool], 6, [], [(6, ⟨42, 6, [(0, (.val (.sl 25 (.agg (.pair (.int .i64) (.pair (.int .i64) (.int .i64))))))), (2, (.val .bool)), (3, (.ptr 1003 [])), (4, (.val (.int .i64)))], [(1003, .box (.val (.arr 6 (.int .i64))))]⟩)]⟩
noncomputable def T3 (n : Nat) : Tab := ⟨[e7L n, e8 n], []⟩
noncomputable def e3 (n : Nat) : Entry := c3.entry Tryd.prog (T3 n) n
theorem ok3 {W0 : World} (hL : Laid W0) (n : Nat) : FnOK Tryd.prog W0 (e3 n) := c3.sound (.cons (ok7L hL n) (.cons (ok8 n) .nil)) n Tryd.func3 (by kernel_rfl) (by kernel_rfl)
noncomputable def f3 (n : Nat) (l : List (Int × (Int × Int))) : Option (Bool) := c3.f Tryd.prog (T3 n) n l
noncomputable def f3_6 (n m : Nat) (l : List (Int × (Int × Int))) (x2 : Bool) (i : Int) (b1003 : List Int) : Option (Bool) := c3.LL Tryd.prog (T3 n) m 6 (l, x2, (), i) (b1003, ())
theorem f3_6_zero (n : Nat) (l : List (Int × (Int × Int))) (x2 : Bool) (i : Int) (b1003 : List Int) : f3_6 n 0 l x2 i b1003 = none := rfl
theorem f3_6_eq (n m : Nat) (l : List (Int × (Int × Int))) (x2 : Bool) (i : Int) (b1003 : List Int) : f3_6 n (m + 1) l x2 i b1003 =
  bif decide (i < ↑l.length) then
   bif decide ((0 : Int) ≤ i ∧ i < ↑l.length) then
    bif decide ((l.getD i.toNat ((0 : Int), (0 : Int), (0 : Int))).fst ≥ (0 : Int)) then
     bif decide ((0 : Int) ≤ i ∧ i < ↑l.length) then
      bif decide ((l.getD i.toNat ((0 : Int), (0 : Int), (0 : Int))).fst ≤ (5 : Int)) then
       bif decide ((0 : Int) ≤ i ∧ i < ↑l.length) then
        bif decide ((0 : Int) ≤ (l.getD i.toNat ((0 : Int), (0 : Int), (0 : Int))).fst ∧ (l.getD i.toNat ((0 : Int), (0 : Int), (0 : Int))).fst < ↑(6 : Nat)) then
         bif decide ((0 : Int) ≤ (l.getD i.toNat ((0 : Int), (0 : Int), (0 : Int))).fst ∧ (l.getD i.toNat ((0 : Int), (0 : Int), (0 : Int))).fst < ↑(6 : Nat)) then
          f3_6 n m l x2 (Go.IntKind.i64.wrap (i + (1 : Int))) (b1003.set (Int.toNat (l.getD i.toNat ((0 : Int), (0 : Int), (0 : Int))).fst) (Go.IntKind.i64.wrap (b1003.getD (Int.toNat (l.getD i.toNat ((0 : Int), (0 : Int), (0 : Int))).fst) (0 : Int) + (1 : Int))))
         else
          none
        else
         none
       else
        none
      else
       f3_6 n m l x2 (Go.IntKind.i64.wrap (i + (1 : Int))) b1003
     else
      none
    else
     f3_6 n m l x2 (Go.IntKind.i64.wrap (i + (1 : Int))) b1003
   else
    none
  else
   (f7L n).bind fun r1 =>
   bif r1 then
    (f8 n l).bind fun r2 =>
    some (Go.Rf.eqL (Go.Rf.eqD (Go.Rf.Ty.int Go.IntKind.i64)) r2 b1003)
   else
    some false := by kernel_rfl
theorem f3_eq (n : Nat) (l : List (Int × (Int × Int))) : f3 n l =
  f3_6 n n l false (0 : Int) ([(0 : Int), (0 : Int), (0 : Int), (0 : Int), (0 : Int), (0 : Int)]) := by kernel_rfl
/- convoy/convoylaw03.FailChecks -/
noncomputable def c5 : Cfg := ⟨5, Tryd.f5, [(.agg (.pair (.int .i64) (.pair (.int .i64) (.int .i64)))), (.agg (.pair (.int .i64) (.pair (.int .i64) (.int .i64)))), (.int .i64)], [.bool], 6, [], []⟩
noncomputable def T5 (n : Nat) : Tab := ⟨[e16 n, e17 n, e7L n, e18 n, e19 n, e20 n, e21 n, e22 n, e23 n], []⟩
noncomputable def e5 (n : Nat) : Entry := c5.entry Tryd.prog (T5 n) n
theorem ok5 {W0 : World} (hL : Laid W0) (n : Nat) : FnOK Tryd.prog W0 (e5 n) := c5.sound (.cons (ok16 n) (.cons (ok17 n) (.cons (ok7L hL n) (.cons (ok18 n) (.cons (ok19 n) (.cons (ok20 n) (.cons (ok21 n) (.cons (ok22 n) (.cons (ok23 n) .nil))))))))) n Tryd.func5 (by kernel_rfl) (by kernel_rfl)
noncomputable def f5 (n : Nat) (f : (Int × (Int × Int))) (g : (Int × (Int × Int))) (value : Int) : Option (Bool) := c5.f Tryd.prog (T5 n) n (f, g, value)
theorem f5_eq (n : Nat) (f : (Int × (Int × Int))) (g : (Int × (Int × Int))) (value : Int) : f5 n f g value =
  (f16 n f).bind fun r1 =>
  (f17 n r1).bind fun r2 =>
  bif r2 then
   (f7L n).bind fun r3 =>
   bif r3 then
    (f18 n f).bind fun r4 =>
    bif r4 == (0 : Int) then
     (f19 n (value, f)).bind fun r5 =>
     (f16 n f).bind fun r6 =>
     (f20 n value r6).bind fun r7 =>
     bif r5 == r7 then
      (f21 n f g).bind fun r8 =>
      bif r8 == (f.fst == g.fst && (f.snd.fst == g.snd.fst && f.snd.snd == g.snd.snd)) then
       (f22 n f g).bind fun r9 =>
       (f16 n f).bind fun r10 =>
       (f16 n g).bind fun r11 =>
       (f23 n r10 r11).bind fun r12 =>
       some (r9 == r12)
      else
       some false
     else
      some false
    else
     some false
   else
    some false
  else
   (f7L n).bind fun r13 =>
   bif r13 then
    (f18 n f).bind fun r14 =>
    bif r14 == (30 : Int) then
     (f19 n (value, f)).bind fun r15 =>
     (f16 n f).bind fun r16 =>
     (f20 n value r16).bind fun r17 =>
     bif r15 == r17 then
      (f21 n f g).bind fun r18 =>
      bif r18 == (f.fst == g.fst && (f.snd.fst == g.snd.fst && f.snd.snd == g.snd.snd)) then
       (f22 n f g).bind fun r19 =>
       (f16 n f).bind fun r20 =>
       (f16 n g).bind fun r21 =>
       (f23 n r20 r21).bind fun r22 =>
       some (r19 == r22)
      else
       some false
     else
      some false
    else
     some false
   else
    some false := by kernel_rfl
end Go.Proofs.YthdddaikdiaijaaDoor
