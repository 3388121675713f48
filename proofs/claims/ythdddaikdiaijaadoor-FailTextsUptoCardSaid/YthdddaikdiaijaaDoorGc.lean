/- What functions compute: printed, and checked by the kernel. -/
import Derived.Test.YthdddaikdiaijaaDoorGb
import Derived.Test.YthdddaikdiaijaaDoorGs2
namespace Go.Proofs.YthdddaikdiaijaaDoor
open Go.Rf
noncomputable def s24x0 : ByteArray := { data := #[110, 111, 110, 101] }
noncomputable def s24x1 : ByteArray := { data := #[32] }
/- convoy/fail.Parse -/
noncomputable def c24 : Cfg := ⟨24, Tryd.f24, [.str], [(.agg (.pair (.int .i64) (.pair (.int .i64) (.int .i64)))), (.int .i64)], 6, [], [(16, ⟨61, 6, [(0, (.val .str)), (2, (.ptr 1002 [])), (4, (.val (.sl 9 .str))), (5, (.ptr 1005 [])), (6, (.val (.int .i64)))], [(1002, .box (.val (.agg (.pair (.int .i64) (.pair (.int .i64) (.int .i64)))))), (1005, .box (.val (.agg (.pair (.int .i64) (.pair (.int .i64) (.int .i64))))))]⟩)]⟩
noncomputable def T24 (n : Nat) : Tab := ⟨[e32L n, e33 n, e34L n, e18 n, e26 n], []⟩
noncomputable def e24 (n : Nat) : Entry := c24.entry Tryd.prog (T24 n) n
theorem ok24 {W0 : World} (hM : Laid2 W0) (n : Nat) : FnOK Tryd.prog W0 (e24 n) := c24.sound (.cons (ok32L hM n) (.cons (ok33 hM.base n) (.cons (ok34L hM n) (.cons (ok18 n) (.cons (ok26 hM.base n) .nil))))) n Tryd.func24 (by kernel_rfl) (by kernel_rfl)
noncomputable def f24 (n : Nat) (s : ByteArray) : Option ((Int × (Int × Int)) × Int) := c24.f Tryd.prog (T24 n) n s
noncomputable def f24_16 (n m : Nat) (s : ByteArray) (parts : List ByteArray) (kind : Int) (b1002 : (Int × (Int × Int))) (b1005 : (Int × (Int × Int))) : Option ((Int × (Int × Int)) × Int) := c24.LL Tryd.prog (T24 n) m 16 (s, (), parts, (), kind) (b1002, b1005, ())
theorem f24_16_zero (n : Nat) (s : ByteArray) (parts : List ByteArray) (kind : Int) (b1002 : (Int × (Int × Int))) (b1005 : (Int × (Int × Int))) : f24_16 n 0 s parts kind b1002 b1005 = none := rfl
theorem f24_16_eq (n m : Nat) (s : ByteArray) (parts : List ByteArray) (kind : Int) (b1002 : (Int × (Int × Int))) (b1005 : (Int × (Int × Int))) : f24_16 n (m + 1) s parts kind b1002 b1005 =
  bif decide (kind ≤ (5 : Int)) then
   bif decide ((0 : Int) ≤ (0 : Int) ∧ (0 : Int) < ↑parts.length) then
    (f33 n kind).bind fun r1 =>
    bif ByteArray.toList r1 == ByteArray.toList (parts.getD (0 : Nat) ByteArray.empty) then
     f24_16 n m s parts (Go.IntKind.i64.wrap (kind + (1 : Int))) b1002 (kind, b1005.snd)
    else
     f24_16 n m s parts (Go.IntKind.i64.wrap (kind + (1 : Int))) b1002 b1005
   else
    none
  else
   bif decide ((0 : Int) ≤ (1 : Int) ∧ (1 : Int) < ↑parts.length) then
    (f34L n (parts.getD (1 : Nat) ByteArray.empty)).bind fun r2 =>
    bif decide ((0 : Int) ≤ (2 : Int) ∧ (2 : Int) < ↑parts.length) then
     (f34L n (parts.getD (2 : Nat) ByteArray.empty)).bind fun r3 =>
     bif b1005.fst == (0 : Int) then
      some (((0 : Int), (0 : Int), (0 : Int)), (30 : Int))
     else
      (f18 n (b1005.fst, r2.fst, r3.fst)).bind fun r4 =>
      bif r4 != (0 : Int) then
       some (((0 : Int), (0 : Int), (0 : Int)), (30 : Int))
      else
       (f26 n (b1005.fst, r2.fst, r3.fst)).bind fun r5 =>
       bif !ByteArray.toList r5 == s.toList then
        some (((0 : Int), (0 : Int), (0 : Int)), (30 : Int))
       else
        some ((b1005.fst, r2.fst, r3.fst), (0 : Int))
    else
     none
   else
    none := by kernel_rfl
theorem f24_eq (n : Nat) (s : ByteArray) : f24 n s =
  bif s.toList == s24x0.toList then
   some (((0 : Int), (0 : Int), (0 : Int)), (0 : Int))
  else
   (f32L n s s24x1).bind fun r1 =>
   bif (↑(List.length r1) : Int) != (3 : Int) then
    some (((0 : Int), (0 : Int), (0 : Int)), (30 : Int))
   else
    f24_16 n n s r1 (1 : Int) (((0 : Int), (0 : Int), (0 : Int))) (((0 : Int), (0 : Int), (0 : Int))) := by kernel_rfl
/- convoy/convoyref03.number -/
noncomputable def c35 : Cfg := ⟨35, Tryd.f35, [.str], [(.int .i64), .bool], 6, [], [(6, ⟨53, 6, [(0, (.val .str)), (4, (.val (.int .i64))), (5, (.val (.int .i64)))], []⟩)]⟩
noncomputable def T35 (n : Nat) : Tab := ⟨[e28 n], []⟩
noncomputable def e35 (n : Nat) : Entry := c35.entry Tryd.prog (T35 n) n
theorem ok35 {W0 : World} (n : Nat) : FnOK Tryd.prog W0 (e35 n) := c35.sound (.cons (ok28 n) .nil) n Tryd.func35 (by kernel_rfl) (by kernel_rfl)
noncomputable def f35 (n : Nat) (s : ByteArray) : Option (Int × Bool) := c35.f Tryd.prog (T35 n) n s
noncomputable def f35_6 (n m : Nat) (s : ByteArray) (x4 : Int) (i : Int) : Option (Int × Bool) := c35.LL Tryd.prog (T35 n) m 6 (s, x4, i) ()
theorem f35_6_zero (n : Nat) (s : ByteArray) (x4 : Int) (i : Int) : f35_6 n 0 s x4 i = none := rfl
theorem f35_6_eq (n m : Nat) (s : ByteArray) (x4 : Int) (i : Int) : f35_6 n (m + 1) s x4 i =
  bif decide (i < ↑s.size) then
   bif decide ((0 : Int) ≤ i ∧ i < ↑s.size) then
    bif Go.Rf.byteAt s i == (45 : Int) then
     bif i == (0 : Int) then
      f35_6 n m s x4 (Go.IntKind.i64.wrap (i + (1 : Int)))
     else
      bif decide ((0 : Int) ≤ i ∧ i < ↑s.size) then
       bif decide (Go.Rf.byteAt s i < (48 : Int)) then
        some ((0 : Int), false)
       else
        bif decide ((0 : Int) ≤ i ∧ i < ↑s.size) then
         bif decide (Go.Rf.byteAt s i > (57 : Int)) then
          some ((0 : Int), false)
         else
          bif decide ((0 : Int) ≤ i ∧ i < ↑s.size) then
           f35_6 n m s (Go.IntKind.i64.wrap (Go.IntKind.i64.wrap (x4 * (10 : Int)) - Go.IntKind.i64.wrap (Go.IntKind.u8.wrap (Go.Rf.byteAt s i - (48 : Int))))) (Go.IntKind.i64.wrap (i + (1 : Int)))
          else
           none
        else
         none
      else
       none
    else
     bif decide ((0 : Int) ≤ i ∧ i < ↑s.size) then
      bif decide (Go.Rf.byteAt s i < (48 : Int)) then
       some ((0 : Int), false)
      else
       bif decide ((0 : Int) ≤ i ∧ i < ↑s.size) then
        bif decide (Go.Rf.byteAt s i > (57 : Int)) then
         some ((0 : Int), false)
        else
         bif decide ((0 : Int) ≤ i ∧ i < ↑s.size) then
          f35_6 n m s (Go.IntKind.i64.wrap (Go.IntKind.i64.wrap (x4 * (10 : Int)) - Go.IntKind.i64.wrap (Go.IntKind.u8.wrap (Go.Rf.byteAt s i - (48 : Int))))) (Go.IntKind.i64.wrap (i + (1 : Int)))
         else
          none
       else
        none
     else
      none
   else
    none
  else
   bif decide ((↑s.size : Int) > (0 : Int)) then
    bif decide ((0 : Int) ≤ (0 : Int) ∧ (0 : Int) < ↑s.size) then
     bif Go.Rf.byteAt s (0 : Int) != (45 : Int) then
      (f28 n (Go.IntKind.i64.wrap ((0 : Int) - x4))).bind fun r1 =>
      some (Go.IntKind.i64.wrap ((0 : Int) - x4), ByteArray.toList r1 == s.toList)
     else
      (f28 n x4).bind fun r2 =>
      some (x4, ByteArray.toList r2 == s.toList)
    else
     none
   else
    (f28 n x4).bind fun r3 =>
    some (x4, ByteArray.toList r3 == s.toList) := by kernel_rfl
theorem f35_eq (n : Nat) (s : ByteArray) : f35 n s =
  f35_6 n n s (0 : Int) (0 : Int) := by kernel_rfl
noncomputable def s25x0 : ByteArray := { data := #[110, 111, 110, 101] }
/- convoy/convoyref03.Parse -/
noncomputable def c25 : Cfg := ⟨25, Tryd.f25, [.str], [(.agg (.pair (.int .i64) (.pair (.int .i64) (.int .i64)))), .bool], 7, [], [(10, ⟨84, 7, [(0, (.val .str)), (2, (.ptr 1002 [])), (4, (.rs 1015)), (5, (.val (.int .i64)))], [(1002, .box (.val (.agg (.pair (.int .i64) (.pair (.int .i64) (.int .i64)))))), (1015, .row 9 .str)]⟩), (30, ⟨84, 7, [(0, (.val .str)), (2, (.ptr 1002 [])), (6, (.val (.int .i64))), (7, (.val .bool)), (8, (.val (.int .i64))), (9, (.val .bool)), (10, (.val (.int .i64)))], [(1002, .box (.val (.agg (.pair (.int .i64) (.pair (.int .i64) (.int .i64))))))]⟩)]⟩
noncomputable def T25 (n : Nat) : Tab := ⟨[e35 n, e17 n, e15 n], []⟩
noncomputable def e25 (n : Nat) : Entry := c25.entry Tryd.prog (T25 n) n
theorem ok25 {W0 : World} (n : Nat) : FnOK Tryd.prog W0 (e25 n) := c25.sound (.cons (ok35 n) (.cons (ok17 n) (.cons (ok15 n) .nil))) n Tryd.func25 (by kernel_rfl) (by kernel_rfl)
noncomputable def f25 (n : Nat) (s : ByteArray) : Option ((Int × (Int × Int)) × Bool) := c25.f Tryd.prog (T25 n) n s
noncomputable def f25_10 (n m : Nat) (s : ByteArray) (i : Int) (b1002 : (Int × (Int × Int))) (l1015 : List ByteArray) : Option ((Int × (Int × Int)) × Bool) := c25.LL Tryd.prog (T25 n) m 10 (s, (), (), i) (b1002, l1015, ())
noncomputable def f25_30 (n m : Nat) (s : ByteArray) (code : Int) (ok : Bool) (run : Int) (is : Bool) (kind : Int) (b1002 : (Int × (Int × Int))) : Option ((Int × (Int × Int)) × Bool) := c25.LL Tryd.prog (T25 n) m 30 (s, (), code, ok, run, is, kind) (b1002, ())
theorem f25_10_zero (n : Nat) (s : ByteArray) (i : Int) (b1002 : (Int × (Int × Int))) (l1015 : List ByteArray) : f25_10 n 0 s i b1002 l1015 = none := rfl
theorem f25_10_eq (n m : Nat) (s : ByteArray) (i : Int) (b1002 : (Int × (Int × Int))) (l1015 : List ByteArray) : f25_10 n (m + 1) s i b1002 l1015 =
  bif decide (i < ↑s.size) then
   bif decide ((0 : Int) ≤ i ∧ i < ↑s.size) then
    bif Go.Rf.byteAt s i == (32 : Int) then
     bif decide ((l1015.length + (1 : Nat)) * (16 : Nat) ≤ Go.Rf.maxBytes) then
      f25_10 n m s (Go.IntKind.i64.wrap (i + (1 : Int))) b1002 (l1015 ++ [ByteArray.empty])
     else
      none
    else
     bif decide ((0 : Int) ≤ Go.IntKind.i64.wrap (↑l1015.length - (1 : Int)) ∧ Go.IntKind.i64.wrap (↑l1015.length - (1 : Int)) < ↑l1015.length) then
      bif decide ((0 : Int) ≤ i ∧ i ≤ Go.IntKind.i64.wrap (i + (1 : Int)) ∧ Go.IntKind.i64.wrap (i + (1 : Int)) ≤ ↑s.size) then
       bif decide ((↑(ByteArray.size (l1015.getD (Go.IntKind.i64.wrap (↑l1015.length - (1 : Int))).toNat ByteArray.empty) + (s.extract i.toNat (Go.IntKind.i64.wrap (i + (1 : Int))).toNat).size) : Int) > Int.ofNat (9223372036854775807 : Nat)) then
        none
       else
        bif decide ((0 : Int) ≤ Go.IntKind.i64.wrap (↑l1015.length - (1 : Int)) ∧ Go.IntKind.i64.wrap (↑l1015.length - (1 : Int)) < ↑l1015.length) then
         f25_10 n m s (Go.IntKind.i64.wrap (i + (1 : Int))) b1002 (l1015.set (Go.IntKind.i64.wrap (↑l1015.length - (1 : Int))).toNat (l1015.getD (Go.IntKind.i64.wrap (↑l1015.length - (1 : Int))).toNat ByteArray.empty ++ s.extract i.toNat (Go.IntKind.i64.wrap (i + (1 : Int))).toNat))
        else
         none
      else
       none
     else
      none
   else
    none
  else
   bif (↑l1015.length : Int) != (3 : Int) then
    some (((0 : Int), (0 : Int), (0 : Int)), false)
   else
    bif decide ((0 : Int) ≤ (1 : Int) ∧ (1 : Int) < ↑l1015.length) then
     (f35 n (l1015.getD (1 : Nat) ByteArray.empty)).bind fun r1 =>
     bif decide ((0 : Int) ≤ (2 : Int) ∧ (2 : Int) < ↑l1015.length) then
      (f35 n (l1015.getD (2 : Nat) ByteArray.empty)).bind fun r2 =>
      f25_30 n m s r1.fst r1.snd r2.fst r2.snd (1 : Int) b1002
     else
      none
    else
     none := by kernel_rfl
theorem f25_30_zero (n : Nat) (s : ByteArray) (code : Int) (ok : Bool) (run : Int) (is : Bool) (kind : Int) (b1002 : (Int × (Int × Int))) : f25_30 n 0 s code ok run is kind b1002 = none := rfl
theorem f25_30_eq (n m : Nat) (s : ByteArray) (code : Int) (ok : Bool) (run : Int) (is : Bool) (kind : Int) (b1002 : (Int × (Int × Int))) : f25_30 n (m + 1) s code ok run is kind b1002 =
  bif decide (kind ≤ (5 : Int)) then
   bif ok then
    bif is then
     (f17 n (kind, code, run)).bind fun r1 =>
     bif r1 then
      (f15 n (kind, code, run)).bind fun r2 =>
      bif ByteArray.toList r2 == s.toList then
       some ((kind, code, run), true)
      else
       f25_30 n m s code ok run is (Go.IntKind.i64.wrap (kind + (1 : Int))) b1002
     else
      f25_30 n m s code ok run is (Go.IntKind.i64.wrap (kind + (1 : Int))) b1002
    else
     some (((0 : Int), (0 : Int), (0 : Int)), false)
   else
    some (((0 : Int), (0 : Int), (0 : Int)), false)
  else
   some (((0 : Int), (0 : Int), (0 : Int)), false) := by kernel_rfl
theorem f25_eq (n : Nat) (s : ByteArray) : f25 n s =
  bif s.toList == s25x0.toList then
   some (((0 : Int), (0 : Int), (0 : Int)), true)
  else
   f25_10 n n s (0 : Int) (((0 : Int), (0 : Int), (0 : Int))) [ByteArray.empty] := by kernel_rfl
/- convoy/convoylaw03.FailTexts -/
noncomputable def c6 : Cfg := ⟨6, Tryd.f6, [(.agg (.pair (.int .i64) (.pair (.int .i64) (.int .i64)))), .str], [.bool], 7, [], []⟩
noncomputable def T6 (n : Nat) : Tab := ⟨[e24 n, e25 n, e26 n, e16 n, e17 n, e7L n, e15 n], []⟩
noncomputable def e6 (n : Nat) : Entry := c6.entry Tryd.prog (T6 n) n
theorem ok6 {W0 : World} (hM : Laid2 W0) (n : Nat) : FnOK Tryd.prog W0 (e6 n) := c6.sound (.cons (ok24 hM n) (.cons (ok25 n) (.cons (ok26 hM.base n) (.cons (ok16 n) (.cons (ok17 n) (.cons (ok7L hM.base n) (.cons (ok15 n) .nil))))))) n Tryd.func6 (by kernel_rfl) (by kernel_rfl)
noncomputable def f6 (n : Nat) (f : (Int × (Int × Int))) (s : ByteArray) : Option (Bool) := c6.f Tryd.prog (T6 n) n (f, s)
theorem f6_eq (n : Nat) (f : (Int × (Int × Int))) (s : ByteArray) : f6 n f s =
  (f24 n s).bind fun r1 =>
  (f25 n s).bind fun r2 =>
  (f26 n f).bind fun r3 =>
  (f24 n r3).bind fun r4 =>
  (f16 n f).bind fun r5 =>
  (f17 n r5).bind fun r6 =>
  (f7L n).bind fun r7 =>
  bif r7 then
   (f26 n f).bind fun r8 =>
   (f16 n f).bind fun r9 =>
   (f15 n r9).bind fun r10 =>
   bif ByteArray.toList r8 == ByteArray.toList r10 then
    (f16 n r1.fst).bind fun r11 =>
    bif r11.fst == r2.fst.fst && (r11.snd.fst == r2.fst.snd.fst && r11.snd.snd == r2.fst.snd.snd) then
     bif (r1.snd == (0 : Int)) == r2.snd then
      bif r2.snd then
       bif (r4.snd == (0 : Int)) == r6 then
        bif !r6 then
         some true
        else
         some (r4.fst.fst == f.fst && (r4.fst.snd.fst == f.snd.fst && r4.fst.snd.snd == f.snd.snd))
       else
        some false
      else
       bif r1.snd == (30 : Int) then
        bif (r4.snd == (0 : Int)) == r6 then
         bif !r6 then
          some true
         else
          some (r4.fst.fst == f.fst && (r4.fst.snd.fst == f.snd.fst && r4.fst.snd.snd == f.snd.snd))
        else
         some false
       else
        some false
     else
      some false
    else
     some false
   else
    some false
  else
   some false := by kernel_rfl

end Go.Proofs.YthdddaikdiaijaaDoor
