/- What functions compute: printed, and checked by the kernel. -/
import Derived.Test.YtfmbgnbdolidjaaDoorGa
import Derived.Test.YtfmbgnbdolidjaaDoorGs
namespace Go.Proofs.YtfmbgnbdolidjaaDoor
open Go.Rf
noncomputable def s6x0 : ByteArray := { data := #[32] }
/- convoy/recipe.Text -/
noncomputable def c6 : Cfg := ⟨6, Tryd.f6, [(.sl 55 (.agg (.pair (.int .i64) (.pair (.int .i64) (.int .i64)))))], [.str, (.int .i64), (.int .i64)], 7, [], [(12, ⟨68, 7, [(7, (.rs 1007)), (23, (.val (.sl 55 (.agg (.pair (.int .i64) (.pair (.int .i64) (.int .i64))))))), (24, (.val (.int .i64))), (25, (.val (.int .i64)))], [(1007, .row 9 .str)]⟩), (18, ⟨68, 7, [(7, (.rs 1007)), (9, (.ptr 1009 [])), (23, (.val (.sl 55 (.agg (.pair (.int .i64) (.pair (.int .i64) (.int .i64))))))), (24, (.val (.int .i64))), (25, (.val (.int .i64))), (29, (.val (.sl 62 (.agg (.pair .str (.pair (.int .i64) (.int .i64))))))), (30, (.val (.int .i64))), (31, (.val (.int .i64)))], [(1007, .row 9 .str), (1009, .box (.val (.agg (.pair (.int .i64) (.pair (.int .i64) (.int .i64))))))]⟩), (28, ⟨68, 7, [(7, (.rs 1007)), (9, (.ptr 1009 [])), (23, (.val (.sl 55 (.agg (.pair (.int .i64) (.pair (.int .i64) (.int .i64))))))), (24, (.val (.int .i64))), (25, (.val (.int .i64))), (29, (.val (.sl 62 (.agg (.pair .str (.pair (.int .i64) (.int .i64))))))), (30, (.val (.int .i64))), (31, (.val (.int .i64))), (52, (.val (.sl 2 (.int .i64)))), (53, (.val (.int .i64))), (54, (.val (.int .i64)))], [(1007, .row 9 .str), (1009, .box (.val (.agg (.pair (.int .i64) (.pair (.int .i64) (.int .i64))))))]⟩)]⟩
noncomputable def T6 (n : Nat) : Tab := ⟨[e16 n, e17 n, e18L n, e19 n], []⟩
noncomputable def e6 (n : Nat) : Entry := c6.entry Tryd.prog (T6 n) n
theorem ok6 {W0 : World} (hL : Laid W0) (n : Nat) : FnOK Tryd.prog W0 (e6 n) := c6.sound (.cons (ok16 n) (.cons (ok17 n) (.cons (ok18L hL n) (.cons (ok19 n) .nil)))) n Tryd.func6 (by kernel_rfl) (by kernel_rfl)
noncomputable def f6 (n : Nat) (l : List (Int × (Int × Int))) : Option (ByteArray × Int × Int) := c6.f Tryd.prog (T6 n) n l
noncomputable def f6_12 (n m : Nat) (x23 : List (Int × (Int × Int))) (x24 : Int) (x25 : Int) (l1007 : List ByteArray) : Option (ByteArray × Int × Int) := c6.LL Tryd.prog (T6 n) m 12 ((), x23, x24, x25) (l1007, ())
noncomputable def f6_18 (n m : Nat) (x23 : List (Int × (Int × Int))) (x24 : Int) (x25 : Int) (x29 : List (ByteArray × (Int × Int))) (x30 : Int) (x31 : Int) (l1007 : List ByteArray) (b1009 : (Int × (Int × Int))) : Option (ByteArray × Int × Int) := c6.LL Tryd.prog (T6 n) m 18 ((), (), x23, x24, x25, x29, x30, x31) (l1007, b1009, ())
noncomputable def f6_28 (n m : Nat) (x23 : List (Int × (Int × Int))) (x24 : Int) (x25 : Int) (x29 : List (ByteArray × (Int × Int))) (x30 : Int) (x31 : Int) (x52 : List Int) (x53 : Int) (x54 : Int) (l1007 : List ByteArray) (b1009 : (Int × (Int × Int))) : Option (ByteArray × Int × Int) := c6.LL Tryd.prog (T6 n) m 28 ((), (), x23, x24, x25, x29, x30, x31, x52, x53, x54) (l1007, b1009, ())
theorem f6_12_zero (n : Nat) (x23 : List (Int × (Int × Int))) (x24 : Int) (x25 : Int) (l1007 : List ByteArray) : f6_12 n 0 x23 x24 x25 l1007 = none := rfl
theorem f6_12_eq (n m : Nat) (x23 : List (Int × (Int × Int))) (x24 : Int) (x25 : Int) (l1007 : List ByteArray) : f6_12 n (m + 1) x23 x24 x25 l1007 =
  bif decide (x25 < x24) then
   bif decide ((0 : Int) ≤ x25 ∧ x25 < ↑x23.length) then
    (f17 n).bind fun r1 =>
    f6_18 n m x23 x24 x25 r1 (↑(List.length r1)) (0 : Int) l1007 (x23.getD x25.toNat ((0 : Int), (0 : Int), (0 : Int)))
   else
    none
  else
   (f19 n l1007 s6x0).bind fun r2 =>
   some (r2, (0 : Int), (0 : Int)) := by kernel_rfl
theorem f6_18_zero (n : Nat) (x23 : List (Int × (Int × Int))) (x24 : Int) (x25 : Int) (x29 : List (ByteArray × (Int × Int))) (x30 : Int) (x31 : Int) (l1007 : List ByteArray) (b1009 : (Int × (Int × Int))) : f6_18 n 0 x23 x24 x25 x29 x30 x31 l1007 b1009 = none := rfl
theorem f6_18_eq (n m : Nat) (x23 : List (Int × (Int × Int))) (x24 : Int) (x25 : Int) (x29 : List (ByteArray × (Int × Int))) (x30 : Int) (x31 : Int) (l1007 : List ByteArray) (b1009 : (Int × (Int × Int))) : f6_18 n (m + 1) x23 x24 x25 x29 x30 x31 l1007 b1009 =
  bif decide (x31 < x30) then
   bif decide ((0 : Int) ≤ x31 ∧ x31 < ↑x29.length) then
    bif (x29.getD x31.toNat (ByteArray.empty, (0 : Int), (0 : Int))).snd.fst != b1009.fst then
     f6_18 n m x23 x24 x25 x29 x30 (Go.IntKind.i64.wrap (x31 + (1 : Int))) l1007 b1009
    else
     bif decide ((l1007.length + [(x29.getD x31.toNat (ByteArray.empty, (0 : Int), (0 : Int))).fst].length) * (16 : Nat) ≤ Go.Rf.maxBytes) then
      bif decide ((0 : Int) ≤ (0 : Int) ∧ (0 : Int) ≤ (x29.getD x31.toNat (ByteArray.empty, (0 : Int), (0 : Int))).snd.snd ∧ (x29.getD x31.toNat (ByteArray.empty, (0 : Int), (0 : Int))).snd.snd ≤ ↑(((List.replicate (2 : Nat) (0 : Int)).set (0 : Nat) b1009.snd.fst).set (1 : Nat) b1009.snd.snd).length) then
       f6_28 n m x23 x24 x25 x29 x30 x31 (List.drop (0 : Nat) (List.take (Int.toNat (x29.getD x31.toNat (ByteArray.empty, (0 : Int), (0 : Int))).snd.snd) (((List.replicate (2 : Nat) (0 : Int)).set (0 : Nat) b1009.snd.fst).set (1 : Nat) b1009.snd.snd))) (↑(List.drop (0 : Nat) (List.take (Int.toNat (x29.getD x31.toNat (ByteArray.empty, (0 : Int), (0 : Int))).snd.snd) (((List.replicate (2 : Nat) (0 : Int)).set (0 : Nat) b1009.snd.fst).set (1 : Nat) b1009.snd.snd))).length) (0 : Int) (l1007 ++ [(x29.getD x31.toNat (ByteArray.empty, (0 : Int), (0 : Int))).fst]) b1009
      else
       none
     else
      none
   else
    none
  else
   f6_12 n m x23 x24 (Go.IntKind.i64.wrap (x25 + (1 : Int))) l1007 := by kernel_rfl
theorem f6_28_zero (n : Nat) (x23 : List (Int × (Int × Int))) (x24 : Int) (x25 : Int) (x29 : List (ByteArray × (Int × Int))) (x30 : Int) (x31 : Int) (x52 : List Int) (x53 : Int) (x54 : Int) (l1007 : List ByteArray) (b1009 : (Int × (Int × Int))) : f6_28 n 0 x23 x24 x25 x29 x30 x31 x52 x53 x54 l1007 b1009 = none := rfl
theorem f6_28_eq (n m : Nat) (x23 : List (Int × (Int × Int))) (x24 : Int) (x25 : Int) (x29 : List (ByteArray × (Int × Int))) (x30 : Int) (x31 : Int) (x52 : List Int) (x53 : Int) (x54 : Int) (l1007 : List ByteArray) (b1009 : (Int × (Int × Int))) : f6_28 n (m + 1) x23 x24 x25 x29 x30 x31 x52 x53 x54 l1007 b1009 =
  bif decide (x54 < x53) then
   bif decide ((0 : Int) ≤ x54 ∧ x54 < ↑x52.length) then
    (f18L n (x52.getD x54.toNat (0 : Int)) (10 : Int)).bind fun r1 =>
    bif decide ((l1007.length + [r1].length) * (16 : Nat) ≤ Go.Rf.maxBytes) then
     f6_28 n m x23 x24 x25 x29 x30 x31 x52 x53 (Go.IntKind.i64.wrap (x54 + (1 : Int))) (l1007 ++ [r1]) b1009
    else
     none
   else
    none
  else
   f6_18 n m x23 x24 x25 x29 x30 (Go.IntKind.i64.wrap (x31 + (1 : Int))) l1007 b1009 := by kernel_rfl
theorem f6_eq (n : Nat) (l : List (Int × (Int × Int))) : f6 n l =
  (f16 n l).bind fun r1 =>
  bif r1.snd != (0 : Int) then
   some (ByteArray.empty, r1.fst, r1.snd)
  else
   f6_12 n n l ↑l.length (0 : Int) [] := by kernel_rfl
/- convoy/recipe.number -/
noncomputable def c40 : Cfg := ⟨40, Tryd.f40, [.str], [(.int .i64), .bool], 5, [], []⟩
noncomputable def T40 (n : Nat) : Tab := ⟨[e55L n, e18L n], []⟩
noncomputable def e40 (n : Nat) : Entry := c40.entry Tryd.prog (T40 n) n
theorem ok40 {W0 : World} (hL : Laid W0) (n : Nat) : FnOK Tryd.prog W0 (e40 n) := c40.sound (.cons (ok55L hL n) (.cons (ok18L hL n) .nil)) n Tryd.func40 (by kernel_rfl) (by kernel_rfl)
noncomputable def f40 (n : Nat) (w : ByteArray) : Option (Int × Bool) := c40.f Tryd.prog (T40 n) n w
theorem f40_eq (n : Nat) (w : ByteArray) : f40 n w =
  (f55L n w (10 : Int) (64 : Int)).bind fun r1 =>
  bif !r1.snd then
   (f18L n r1.fst (10 : Int)).bind fun r2 =>
   some (r1.fst, ByteArray.toList r2 == w.toList)
  else
   some (r1.fst, false) := by kernel_rfl
/- (*convoy/recipe.parser).step -/
noncomputable def c24o : OCfg := ⟨24, Tryd.f24, ⟨85, 7, [(0, (.ptr 1 []))], [(1, .box (.agg (.pair (.val (.sl 9 .str)) (.val (.pair (.int .i64) (.int .i64))))))]⟩, [⟨3, 3, [(0, (.val (.agg (.pair (.int .i64) (.pair (.int .i64) (.int .i64)))))), (1, (.val (.int .i64))), (2, (.val .bool))], [(1, .box (.val (.agg (.pair (.sl 9 .str) (.pair (.int .i64) (.int .i64))))))]⟩], [], [(10, ⟨85, 7, [(0, (.ptr 1 [])), (2, (.ptr 1002 [])), (5, (.val .str)), (6, (.val (.int .i64))), (28, (.val (.sl 62 (.agg (.pair .str (.pair (.int .i64) (.int .i64))))))), (29, (.val (.int .i64))), (30, (.val (.int .i64)))], [(1, .box (.val (.agg (.pair (.sl 9 .str) (.pair (.int .i64) (.int .i64)))))), (1002, .box (.val (.agg (.pair (.int .i64) (.pair (.int .i64) (.int .i64))))))]⟩), (22, ⟨85, 7, [(0, (.ptr 1 [])), (2, (.ptr 1002 [])), (10, (.ptr 1010 [])), (11, (.lit 2 (.pair (.ptr 1010 [1]) (.pair (.ptr 1010 [2]) (.val .unit))))), (45, (.val (.int .i64))), (46, (.val (.int .i64)))], [(1, .box (.val (.agg (.pair (.sl 9 .str) (.pair (.int .i64) (.int .i64)))))), (1002, .box (.val (.agg (.pair (.int .i64) (.pair (.int .i64) (.int .i64)))))), (1010, .box (.val (.agg (.pair (.int .i64) (.pair (.int .i64) (.int .i64))))))]⟩)]⟩
noncomputable def T24o (n : Nat) : Tab := ⟨[e17 n, e40 n, e41 n], [e39o n]⟩
noncomputable def e24o (n : Nat) : OE := c24o.entry Tryd.prog (T24o n) n
theorem ok24o {W0 : World} (hL : Laid W0) (n : Nat) : OOK Tryd.prog W0 (e24o n) := c24o.sound (.ocons (ok39o n) (.cons (ok17 n) (.cons (ok40 hL n) (.cons (ok41 n) .nil)))) n Tryd.func24 (by kernel_rfl) (by kernel_rfl)
noncomputable def f24o (n : Nat) (b1a : List ByteArray) (b1b : (Int × Int)) : Option ((((Int × (Int × Int)) × (Int × Bool)) × ((List ByteArray × (Int × Int)) × Unit))) := c24o.f Tryd.prog (T24o n) n () ((b1a, b1b), ())
noncomputable def f24o_10 (n m : Nat) (w : ByteArray) (x6 : Int) (x28 : List (ByteArray × (Int × Int))) (x29 : Int) (x30 : Int) (b1 : (List ByteArray × (Int × Int))) (b1002 : (Int × (Int × Int))) : Option ((((Int × (Int × Int)) × (Int × Bool)) × ((List ByteArray × (Int × Int)) × Unit))) := c24o.LL Tryd.prog (T24o n) m 10 ((), (), w, x6, x28, x29, x30) (b1, b1002, ())
noncomputable def f24o_22 (n m : Nat) (tobb : Unit) (x45 : Int) (x46 : Int) (b1 : (List ByteArray × (Int × Int))) (b1002 : (Int × (Int × Int))) (b1010 : (Int × (Int × Int))) : Option ((((Int × (Int × Int)) × (Int × Bool)) × ((List ByteArray × (Int × Int)) × Unit))) := c24o.LL Tryd.prog (T24o n) m 22 ((), (), (), ((), ((), tobb)), x45, x46) (b1, b1002, b1010, ())
theorem f24o_10_zero (n : Nat) (w : ByteArray) (x6 : Int) (x28 : List (ByteArray × (Int × Int))) (x29 : Int) (x30 : Int) (b1 : (List ByteArray × (Int × Int))) (b1002 : (Int × (Int × Int))) : f24o_10 n 0 w x6 x28 x29 x30 b1 b1002 = none := rfl
theorem f24o_10_eq (n m : Nat) (w : ByteArray) (x6 : Int) (x28 : List (ByteArray × (Int × Int))) (x29 : Int) (x30 : Int) (b1 : (List ByteArray × (Int × Int))) (b1002 : (Int × (Int × Int))) : f24o_10 n (m + 1) w x6 x28 x29 x30 b1 b1002 =
  bif decide (x30 < x29) then
   bif decide ((0 : Int) ≤ x30 ∧ x30 < ↑x28.length) then
    bif !ByteArray.toList (x28.getD x30.toNat (ByteArray.empty, (0 : Int), (0 : Int))).fst == w.toList then
     f24o_10 n m w x6 x28 x29 (Go.IntKind.i64.wrap (x30 + (1 : Int))) b1 b1002
    else
     f24o_22 n m () ((x28.getD x30.toNat (ByteArray.empty, (0 : Int), (0 : Int))).snd.snd) (0 : Int) b1 b1002 (((x28.getD x30.toNat (ByteArray.empty, (0 : Int), (0 : Int))).snd.fst, (0 : Int), (0 : Int)))
   else
    none
  else
   some (((((0 : Int), (0 : Int), (0 : Int)), x6, false), (b1, ()))) := by kernel_rfl
theorem f24o_22_zero (n : Nat) (tobb : Unit) (x45 : Int) (x46 : Int) (b1 : (List ByteArray × (Int × Int))) (b1002 : (Int × (Int × Int))) (b1010 : (Int × (Int × Int))) : f24o_22 n 0 tobb x45 x46 b1 b1002 b1010 = none := rfl
theorem f24o_22_eq (n m : Nat) (tobb : Unit) (x45 : Int) (x46 : Int) (b1 : (List ByteArray × (Int × Int))) (b1002 : (Int × (Int × Int))) (b1010 : (Int × (Int × Int))) : f24o_22 n (m + 1) tobb x45 x46 b1 b1002 b1010 =
  bif decide (x46 < x45) then
   (f39o n b1.1 b1.snd).bind fun r1 =>
   bif !r1.fst.snd.snd then
    some (((((0 : Int), (0 : Int), (0 : Int)), r1.fst.snd.fst, false), (r1.snd.fst, ())))
   else
    (f40 n r1.fst.fst).bind fun r2 =>
    bif decide (x46 = ↑(0 : Nat)) then
     bif !r2.snd then
      some (((((0 : Int), (0 : Int), (0 : Int)), r1.fst.snd.fst, false), (r1.snd.fst, ())))
     else
      (f41 n (b1010.fst, r2.fst, b1010.snd.snd) x46).bind fun r3 =>
      bif !r3 then
       some (((((0 : Int), (0 : Int), (0 : Int)), r1.fst.snd.fst, false), (r1.snd.fst, ())))
      else
       f24o_22 n m () x45 (Go.IntKind.i64.wrap (x46 + (1 : Int))) r1.snd.fst b1002 (b1010.fst, r2.fst, b1010.snd.snd)
    else
     bif decide (x46 = ↑(1 : Nat)) then
      bif !r2.snd then
       some (((((0 : Int), (0 : Int), (0 : Int)), r1.fst.snd.fst, false), (r1.snd.fst, ())))
      else
       (f41 n (b1010.fst, b1010.snd.fst, r2.fst) x46).bind fun r4 =>
       bif !r4 then
        some (((((0 : Int), (0 : Int), (0 : Int)), r1.fst.snd.fst, false), (r1.snd.fst, ())))
       else
        f24o_22 n m () x45 (Go.IntKind.i64.wrap (x46 + (1 : Int))) r1.snd.fst b1002 (b1010.fst, b1010.snd.fst, r2.fst)
     else
      none
  else
   some (((b1010, (0 : Int), true), (b1, ()))) := by kernel_rfl
theorem f24o_eq (n : Nat) (b1a : List ByteArray) (b1b : (Int × Int)) : f24o n b1a b1b =
  (f39o n b1a b1b).bind fun r1 =>
  bif !r1.fst.snd.snd then
   some (((((0 : Int), (0 : Int), (0 : Int)), r1.fst.snd.fst, false), (r1.snd.fst, ())))
  else
   (f17 n).bind fun r2 =>
   f24o_10 n n r1.fst.fst r1.fst.snd.fst r2 (↑(List.length r2)) (0 : Int) r1.snd.fst (((0 : Int), (0 : Int), (0 : Int))) := by kernel_rfl
noncomputable def s10x0 : ByteArray := { data := #[32] }
/- convoy/recipe.Parse -/
noncomputable def c10 : Cfg := ⟨10, Tryd.f10, [.str], [(.sl 55 (.agg (.pair (.int .i64) (.pair (.int .i64) (.int .i64))))), (.int .i64), (.int .i64)], 6, [], [(10, ⟨41, 6, [(5, (.ptr 1017 [])), (6, (.rs 1006))], [(1006, .row 55 (.agg (.pair (.int .i64) (.pair (.int .i64) (.int .i64))))), (1017, .box (.val (.agg (.pair (.sl 9 .str) (.pair (.int .i64) (.int .i64))))))]⟩)]⟩
noncomputable def T10 (n : Nat) : Tab := ⟨[e23L n], [e24o n]⟩
noncomputable def e10 (n : Nat) : Entry := c10.entry Tryd.prog (T10 n) n
theorem ok10 {W0 : World} (hL : Laid W0) (n : Nat) : FnOK Tryd.prog W0 (e10 n) := c10.sound (.cons (ok23L hL n) (.ocons (ok24o hL n) .nil)) n Tryd.func10 (by kernel_rfl) (by kernel_rfl)
noncomputable def f10 (n : Nat) (s : ByteArray) : Option (List (Int × (Int × Int)) × Int × Int) := c10.f Tryd.prog (T10 n) n s
noncomputable def f10_10 (n m : Nat) (l1006 : List (Int × (Int × Int))) (b1017 : (List ByteArray × (Int × Int))) : Option (List (Int × (Int × Int)) × Int × Int) := c10.LL Tryd.prog (T10 n) m 10 ((), ()) (l1006, b1017, ())
theorem f10_10_zero (n : Nat) (l1006 : List (Int × (Int × Int))) (b1017 : (List ByteArray × (Int × Int))) : f10_10 n 0 l1006 b1017 = none := rfl
theorem f10_10_eq (n m : Nat) (l1006 : List (Int × (Int × Int))) (b1017 : (List ByteArray × (Int × Int))) : f10_10 n (m + 1) l1006 b1017 =
  bif decide ((↑(List.length b1017.fst) : Int) > (0 : Int)) then
   (f24o n b1017.1 b1017.snd).bind fun r1 =>
   bif !r1.fst.snd.snd then
    some ([], r1.fst.snd.fst, (80 : Int))
   else
    bif decide ((l1006.length + [r1.fst.fst].length) * (24 : Nat) ≤ Go.Rf.maxBytes) then
     f10_10 n m (l1006 ++ [r1.fst.fst]) r1.snd.fst
    else
     none
  else
   bif decide ((↑l1006.length : Int) > (256 : Int)) then
    some ([], (256 : Int), (3 : Int))
   else
    some (l1006, (0 : Int), (0 : Int)) := by kernel_rfl
theorem f10_eq (n : Nat) (s : ByteArray) : f10 n s =
  bif s.toList == ByteArray.empty.toList then
   some ([], (0 : Int), (0 : Int))
  else
   (f23L n s s10x0).bind fun r1 =>
   f10_10 n n [] ((r1, (0 : Int), ↑s.size)) := by kernel_rfl
/- convoy/convoylaw08.RecipeTexts -/
noncomputable def c3 : Cfg := ⟨3, Tryd.f3, [(.sl 55 (.agg (.pair (.int .i64) (.pair (.int .i64) (.int .i64))))), .str], [.bool], 7, [], []⟩
noncomputable def T3 (n : Nat) : Tab := ⟨[e5 n, e6 n, e8 n, e7 n, e9 n, e10 n, e11 n, e12 n], []⟩
noncomputable def e3 (n : Nat) : Entry := c3.entry Tryd.prog (T3 n) n
theorem ok3 {W0 : World} (hL : Laid W0) (n : Nat) : FnOK Tryd.prog W0 (e3 n) := c3.sound (.cons (ok5 n) (.cons (ok6 hL n) (.cons (ok8 n) (.cons (ok7 n) (.cons (ok9 n) (.cons (ok10 hL n) (.cons (ok11 n) (.cons (ok12 n) .nil)))))))) n Tryd.func3 (by kernel_rfl) (by kernel_rfl)
noncomputable def f3 (n : Nat) (l : List (Int × (Int × Int))) (s : ByteArray) : Option (Bool) := c3.f Tryd.prog (T3 n) n (l, s)
theorem f3_eq (n : Nat) (l : List (Int × (Int × Int))) (s : ByteArray) : f3 n l s =
  (f5 n).bind fun r1 =>
  bif !r1 then
   some false
  else
   (f6 n l).bind fun r2 =>
   (f8 n l).bind fun r3 =>
   (f7 n r3).bind fun r4 =>
   bif r2.snd.fst != r4.fst then
    some false
   else
    bif r2.snd.snd != r4.snd then
     some false
    else
     bif r4.snd != (0 : Int) then
      bif !ByteArray.toList r2.fst == ByteArray.empty.toList then
       some false
      else
       bif r4.snd == (0 : Int) then
        (f8 n l).bind fun r5 =>
        (f9 n r5).bind fun r6 =>
        bif !ByteArray.toList r2.fst == ByteArray.toList r6 then
         some false
        else
         (f10 n s).bind fun r7 =>
         (f11 n s).bind fun r8 =>
         (f12 n r7.1 r8.1).bind fun r9 =>
         bif r9 then
          bif r7.snd.fst == r8.snd.fst then
           some (r7.snd.snd == r8.snd.snd)
          else
           some false
         else
          some false
       else
        (f10 n s).bind fun r10 =>
        (f11 n s).bind fun r11 =>
        (f12 n r10.1 r11.1).bind fun r12 =>
        bif r12 then
         bif r10.snd.fst == r11.snd.fst then
          some (r10.snd.snd == r11.snd.snd)
         else
          some false
        else
         some false
     else
      bif r4.snd == (0 : Int) then
       (f8 n l).bind fun r13 =>
       (f9 n r13).bind fun r14 =>
       bif !ByteArray.toList r2.fst == ByteArray.toList r14 then
        some false
       else
        (f10 n s).bind fun r15 =>
        (f11 n s).bind fun r16 =>
        (f12 n r15.1 r16.1).bind fun r17 =>
        bif r17 then
         bif r15.snd.fst == r16.snd.fst then
          some (r15.snd.snd == r16.snd.snd)
         else
          some false
        else
         some false
      else
       (f10 n s).bind fun r18 =>
       (f11 n s).bind fun r19 =>
       (f12 n r18.1 r19.1).bind fun r20 =>
       bif r20 then
        bif r18.snd.fst == r19.snd.fst then
         some (r18.snd.snd == r19.snd.snd)
        else
         some false
       else
        some false := by kernel_rfl
/- convoy/convoylaw08.RecipeBack -/
noncomputable def c4 : Cfg := ⟨4, Tryd.f4, [(.sl 55 (.agg (.pair (.int .i64) (.pair (.int .i64) (.int .i64))))), (.agg (.pair (.agg (.pair (.int .u16) .str)) (.pair (.int .i64) .bool)))], [.bool], 7, [], [(24, ⟨116, 7, [(0, (.val (.sl 55 (.agg (.pair (.int .i64) (.pair (.int .i64) (.int .i64))))))), (3, (.ptr 1003 [])), (13, (.ptr 1013 [])), (14, (.val (.int .i64)))], [(1003, .box (.val (.agg (.pair (.agg (.pair (.int .u16) .str)) (.pair (.int .i64) .bool))))), (1013, .box (.val (.agg (.pair (.int .i64) (.pair (.int .i64) (.pair (.int .i64) (.int .i64)))))))]⟩)]⟩
noncomputable def T4 (n : Nat) : Tab := ⟨[e5 n, e6 n, e10 n, e13 n, e14 n], []⟩
noncomputable def e4 (n : Nat) : Entry := c4.entry Tryd.prog (T4 n) n
theorem ok4 {W0 : World} (hL : Laid W0) (n : Nat) : FnOK Tryd.prog W0 (e4 n) := c4.sound (.cons (ok5 n) (.cons (ok6 hL n) (.cons (ok10 hL n) (.cons (ok13 n) (.cons (ok14 n) .nil))))) n Tryd.func4 (by kernel_rfl) (by kernel_rfl)
noncomputable def f4 (n : Nat) (l : List (Int × (Int × Int))) (x : ((Int × ByteArray) × (Int × Bool))) : Option (Bool) := c4.f Tryd.prog (T4 n) n (l, x)
noncomputable def f4_24 (n m : Nat) (l : List (Int × (Int × Int))) (x14 : Int) (b1003 : ((Int × ByteArray) × (Int × Bool))) (b1013 : (Int × (Int × (Int × Int)))) : Option (Bool) := c4.LL Tryd.prog (T4 n) m 24 (l, (), (), x14) (b1003, b1013, ())
theorem f4_24_zero (n : Nat) (l : List (Int × (Int × Int))) (x14 : Int) (b1003 : ((Int × ByteArray) × (Int × Bool))) (b1013 : (Int × (Int × (Int × Int)))) : f4_24 n 0 l x14 b1003 b1013 = none := rfl
theorem f4_24_eq (n m : Nat) (l : List (Int × (Int × Int))) (x14 : Int) (b1003 : ((Int × ByteArray) × (Int × Bool))) (b1013 : (Int × (Int × (Int × Int)))) : f4_24 n (m + 1) l x14 b1003 b1013 =
  bif decide (x14 ≤ ↑l.length) then
   (f13 n l b1013 b1003).bind fun r1 =>
   (f14 n l b1013 b1003).bind fun r2 =>
   bif r1.snd.snd.snd != (0 : Int) then
    some false
   else
    bif r2.snd.snd.snd != (0 : Int) then
     some false
    else
     bif r2.snd.snd.fst then
      bif r1.fst.fst == r2.fst.fst && (r1.fst.snd.fst == r2.fst.snd.fst && (r1.fst.snd.snd.fst == r2.fst.snd.snd.fst && r1.fst.snd.snd.snd == r2.fst.snd.snd.snd)) then
       bif r1.snd.fst.fst == r2.snd.fst.fst && (r1.snd.fst.snd.fst == r2.snd.fst.snd.fst && (r1.snd.fst.snd.snd.fst == r2.snd.fst.snd.snd.fst && r1.snd.fst.snd.snd.snd == r2.snd.fst.snd.snd.snd)) then
        some (r1.snd.snd.fst == r2.snd.snd.fst)
       else
        some false
      else
       some false
     else
      bif r2.fst.snd.snd.fst != (0 : Int) then
       bif r1.fst.fst == r2.fst.fst && (r1.fst.snd.fst == r2.fst.snd.fst && (r1.fst.snd.snd.fst == r2.fst.snd.snd.fst && r1.fst.snd.snd.snd == r2.fst.snd.snd.snd)) then
        bif r1.snd.fst.fst == r2.snd.fst.fst && (r1.snd.fst.snd.fst == r2.snd.fst.snd.fst && (r1.snd.fst.snd.snd.fst == r2.snd.fst.snd.snd.fst && r1.snd.fst.snd.snd.snd == r2.snd.fst.snd.snd.snd)) then
         some (r1.snd.snd.fst == r2.snd.snd.fst)
        else
         some false
       else
        some false
      else
       f4_24 n m l (Go.IntKind.i64.wrap (x14 + (1 : Int))) b1003 r2.fst
  else
   some false := by kernel_rfl
theorem f4_eq (n : Nat) (l : List (Int × (Int × Int))) (x : ((Int × ByteArray) × (Int × Bool))) : f4 n l x =
  (f5 n).bind fun r1 =>
  bif !r1 then
   some false
  else
   (f6 n l).bind fun r2 =>
   bif r2.snd.snd != (0 : Int) then
    some (ByteArray.toList r2.fst == ByteArray.empty.toList)
   else
    (f10 n r2.fst).bind fun r3 =>
    (f6 n r3.1).bind fun r4 =>
    bif r3.snd.snd != (0 : Int) then
     some false
    else
     bif r4.snd.snd != (0 : Int) then
      some false
     else
      bif !ByteArray.toList r4.fst == ByteArray.toList r2.fst then
       some false
      else
       bif (↑(List.length r3.fst) : Int) != ↑l.length then
        some false
       else
        f4_24 n n l (0 : Int) x (((0 : Int), (0 : Int), (0 : Int), (0 : Int))) := by kernel_rfl
end Go.Proofs.YtfmbgnbdolidjaaDoor
