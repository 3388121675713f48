/- What functions compute: printed, and checked by the kernel. -/
import Derived.Test.YtaakmifjkobkgaaDoorGb
namespace Go.Proofs.YtaakmifjkobkgaaDoor
open Go.Rf
/- convoy/convoylaw29.tale -/
noncomputable def c19 : Cfg := ⟨19, Tryd.f19, [(.agg (.pair (.int .i64) (.pair (.int .i64) (.pair (.int .i64) (.pair (.int .i64) (.pair (.int .i64) (.int .u64)))))))], [(.agg (.pair (.int .i64) (.pair (.int .i64) (.pair (.int .i64) (.pair (.int .i64) (.pair (.int .i64) (.int .u64)))))))], 4, [], []⟩
noncomputable def T19 (_ : Nat) : Tab := ⟨[], []⟩
noncomputable def e19 (n : Nat) : Entry := c19.entry Tryd.prog (T19 n) n
theorem ok19 {W0 : World} (n : Nat) : FnOK Tryd.prog W0 (e19 n) := c19.sound .nil n Tryd.func19 (by kernel_rfl) (by kernel_rfl)
noncomputable def f19 (n : Nat) (t : (Int × (Int × (Int × (Int × (Int × Int)))))) : Option ((Int × (Int × (Int × (Int × (Int × Int)))))) := c19.f Tryd.prog (T19 n) n t
theorem f19_eq (n : Nat) (t : (Int × (Int × (Int × (Int × (Int × Int)))))) : f19 n t =
  some t := by kernel_rfl
/- convoy/key.Check -/
noncomputable def c53 : Cfg := ⟨53, Tryd.f53, [(.agg (.pair (.int .u16) .str))], [(.int .i64)], 3, [], []⟩
noncomputable def T53 (_ : Nat) : Tab := ⟨[], []⟩
noncomputable def e53 (n : Nat) : Entry := c53.entry Tryd.prog (T53 n) n
theorem ok53 {W0 : World} (n : Nat) : FnOK Tryd.prog W0 (e53 n) := c53.sound .nil n Tryd.func53 (by kernel_rfl) (by kernel_rfl)
noncomputable def f53 (n : Nat) (k : (Int × ByteArray)) : Option (Int) := c53.f Tryd.prog (T53 n) n k
theorem f53_eq (n : Nat) (k : (Int × ByteArray)) : f53 n k =
  bif decide (↑(ByteArray.size k.snd) > (64 : Int)) then
   some (20 : Int)
  else
   some (0 : Int) := by kernel_rfl
/- (convoy/story.teller).key -/
noncomputable def c59 : Cfg := ⟨59, Tryd.f59, [(.agg (.agg (.pair (.int .i64) (.pair (.int .i64) (.pair (.int .i64) (.pair (.int .i64) (.pair (.int .i64) (.int .u64)))))))), (.int .i64), (.int .i64)], [(.agg (.pair (.int .u16) .str))], 4, [], []⟩
noncomputable def T59 (n : Nat) : Tab := ⟨[e15L n], []⟩
noncomputable def e59 (n : Nat) : Entry := c59.entry Tryd.prog (T59 n) n
theorem ok59 {W0 : World} (hL : Laid W0) (n : Nat) : FnOK Tryd.prog W0 (e59 n) := c59.sound (.cons (ok15L hL n) .nil) n Tryd.func59 (by kernel_rfl) (by kernel_rfl)
noncomputable def f59 (n : Nat) (x : (Int × (Int × (Int × (Int × (Int × Int)))))) (i : Int) (j : Int) : Option ((Int × ByteArray)) := c59.f Tryd.prog (T59 n) n (x, i, j)
theorem f59_eq (n : Nat) (x : (Int × (Int × (Int × (Int × (Int × Int)))))) (i : Int) (j : Int) : f59 n x i j =
  bif decide (x.snd.snd.snd.fst = (0 : Int)) then
   none
  else
   (f15L n ((Go.IntKind.i64.wrap (i + j)).tmod x.snd.snd.snd.fst)).bind fun r1 =>
   some r1 := by kernel_rfl
/- (convoy/story.teller).starts -/
noncomputable def c60o : OCfg := ⟨60, Tryd.f60, ⟨25, 5, [(0, (.val (.agg (.agg (.pair (.int .i64) (.pair (.int .i64) (.pair (.int .i64) (.pair (.int .i64) (.pair (.int .i64) (.int .u64)))))))))), (1, (.val (.int .i64)))], []⟩, [⟨1, 2, [(0, (.rs 1005))], [(1005, .row 67 (.agg (.pair (.int .i64) (.pair (.agg (.pair (.int .u16) .str)) (.pair (.int .i64) (.int .i64))))))]⟩], [], [(6, ⟨25, 5, [(1, (.val (.int .i64))), (2, (.ptr 1002 [])), (5, (.rs 1005)), (9, (.val (.int .i64))), (10, (.val (.int .i64)))], [(1002, .box (.val (.agg (.agg (.pair (.int .i64) (.pair (.int .i64) (.pair (.int .i64) (.pair (.int .i64) (.pair (.int .i64) (.int .u64)))))))))), (1005, .row 67 (.agg (.pair (.int .i64) (.pair (.agg (.pair (.int .u16) .str)) (.pair (.int .i64) (.int .i64))))))]⟩)]⟩
noncomputable def T60o (n : Nat) : Tab := ⟨[e59 n], []⟩
noncomputable def e60o (n : Nat) : OE := c60o.entry Tryd.prog (T60o n) n
theorem ok60o {W0 : World} (hL : Laid W0) (n : Nat) : OOK Tryd.prog W0 (e60o n) := c60o.sound (.cons (ok59 hL n) .nil) n Tryd.func60 (by kernel_rfl) (by kernel_rfl)
noncomputable def f60o (n : Nat) (x : (Int × (Int × (Int × (Int × (Int × Int)))))) (i : Int) : Option ((Unit × (List (Int × ((Int × ByteArray) × (Int × Int))) × Unit))) := c60o.f Tryd.prog (T60o n) n (x, i) ()
noncomputable def f60o_6 (n m : Nat) (i : Int) (x9 : Int) (x10 : Int) (b1002 : (Int × (Int × (Int × (Int × (Int × Int)))))) (l1005 : List (Int × ((Int × ByteArray) × (Int × Int)))) : Option ((Unit × (List (Int × ((Int × ByteArray) × (Int × Int))) × Unit))) := c60o.LL Tryd.prog (T60o n) m 6 (i, (), (), x9, x10) (b1002, l1005, ())
theorem f60o_6_zero (n : Nat) (i : Int) (x9 : Int) (x10 : Int) (b1002 : (Int × (Int × (Int × (Int × (Int × Int)))))) (l1005 : List (Int × ((Int × ByteArray) × (Int × Int)))) : f60o_6 n 0 i x9 x10 b1002 l1005 = none := rfl
theorem f60o_6_eq (n m : Nat) (i : Int) (x9 : Int) (x10 : Int) (b1002 : (Int × (Int × (Int × (Int × (Int × Int)))))) (l1005 : List (Int × ((Int × ByteArray) × (Int × Int)))) : f60o_6 n (m + 1) i x9 x10 b1002 l1005 =
  bif decide (x10 < x9) then
   (f59 n b1002 i x10).bind fun r1 =>
   bif decide ((l1005.length + [((2 : Int), r1, (0 : Int), x10.tmod (16 : Int))].length) * (48 : Nat) ≤ Go.Rf.maxBytes) then
    f60o_6 n m i x9 (Go.IntKind.i64.wrap (x10 + (1 : Int))) b1002 (l1005 ++ [((2 : Int), r1, (0 : Int), x10.tmod (16 : Int))])
   else
    none
  else
   some (((), (l1005, ()))) := by kernel_rfl
theorem f60o_eq (n : Nat) (x : (Int × (Int × (Int × (Int × (Int × Int)))))) (i : Int) : f60o n x i =
  f60o_6 n n i x.snd.snd.fst (0 : Int) x [] := by kernel_rfl
/- (convoy/story.teller).trickle -/
noncomputable def c44 : Cfg := ⟨44, Tryd.f44, [(.agg (.agg (.pair (.int .i64) (.pair (.int .i64) (.pair (.int .i64) (.pair (.int .i64) (.pair (.int .i64) (.int .u64)))))))), (.int .i64)], [(.sl 67 (.agg (.pair (.int .i64) (.pair (.agg (.pair (.int .u16) .str)) (.pair (.int .i64) (.int .i64))))))], 5, [], [(6, ⟨27, 5, [(1, (.val (.int .i64))), (2, (.ptr 1002 [])), (5, (.rs 1005)), (9, (.val (.int .i64))), (10, (.val (.int .i64)))], [(1002, .box (.val (.agg (.agg (.pair (.int .i64) (.pair (.int .i64) (.pair (.int .i64) (.pair (.int .i64) (.pair (.int .i64) (.int .u64)))))))))), (1005, .row 67 (.agg (.pair (.int .i64) (.pair (.agg (.pair (.int .u16) .str)) (.pair (.int .i64) (.int .i64))))))]⟩)]⟩
noncomputable def T44 (n : Nat) : Tab := ⟨[e59 n], []⟩
noncomputable def e44 (n : Nat) : Entry := c44.entry Tryd.prog (T44 n) n
theorem ok44 {W0 : World} (hL : Laid W0) (n : Nat) : FnOK Tryd.prog W0 (e44 n) := c44.sound (.cons (ok59 hL n) .nil) n Tryd.func44 (by kernel_rfl) (by kernel_rfl)
noncomputable def f44 (n : Nat) (x : (Int × (Int × (Int × (Int × (Int × Int)))))) (i : Int) : Option (List (Int × ((Int × ByteArray) × (Int × Int)))) := c44.f Tryd.prog (T44 n) n (x, i)
noncomputable def f44_6 (n m : Nat) (i : Int) (x9 : Int) (x10 : Int) (b1002 : (Int × (Int × (Int × (Int × (Int × Int)))))) (l1005 : List (Int × ((Int × ByteArray) × (Int × Int)))) : Option (List (Int × ((Int × ByteArray) × (Int × Int)))) := c44.LL Tryd.prog (T44 n) m 6 (i, (), (), x9, x10) (b1002, l1005, ())
theorem f44_6_zero (n : Nat) (i : Int) (x9 : Int) (x10 : Int) (b1002 : (Int × (Int × (Int × (Int × (Int × Int)))))) (l1005 : List (Int × ((Int × ByteArray) × (Int × Int)))) : f44_6 n 0 i x9 x10 b1002 l1005 = none := rfl
theorem f44_6_eq (n m : Nat) (i : Int) (x9 : Int) (x10 : Int) (b1002 : (Int × (Int × (Int × (Int × (Int × Int)))))) (l1005 : List (Int × ((Int × ByteArray) × (Int × Int)))) : f44_6 n (m + 1) i x9 x10 b1002 l1005 =
  bif decide (x10 < x9) then
   (f59 n b1002 i x10).bind fun r1 =>
   bif decide ((l1005.length + [((8 : Int), ((0 : Int), ByteArray.empty), b1002.snd.snd.snd.snd.fst, (0 : Int)), ((1 : Int), r1, (0 : Int), (0 : Int))].length) * (48 : Nat) ≤ Go.Rf.maxBytes) then
    f44_6 n m i x9 (Go.IntKind.i64.wrap (x10 + (1 : Int))) b1002 (l1005 ++ [((8 : Int), ((0 : Int), ByteArray.empty), b1002.snd.snd.snd.snd.fst, (0 : Int)), ((1 : Int), r1, (0 : Int), (0 : Int))])
   else
    none
  else
   some l1005 := by kernel_rfl
theorem f44_eq (n : Nat) (x : (Int × (Int × (Int × (Int × (Int × Int)))))) (i : Int) : f44 n x i =
  f44_6 n n i x.snd.snd.fst (0 : Int) x [] := by kernel_rfl
/- (convoy/story.teller).storm -/
noncomputable def c45 : Cfg := ⟨45, Tryd.f45, [(.agg (.agg (.pair (.int .i64) (.pair (.int .i64) (.pair (.int .i64) (.pair (.int .i64) (.pair (.int .i64) (.int .u64)))))))), (.int .i64)], [(.sl 67 (.agg (.pair (.int .i64) (.pair (.agg (.pair (.int .u16) .str)) (.pair (.int .i64) (.int .i64))))))], 5, [], [(6, ⟨31, 5, [(1, (.val (.int .i64))), (2, (.ptr 1002 [])), (5, (.rs 1005)), (9, (.val (.int .i64))), (10, (.val (.int .i64)))], [(1002, .box (.val (.agg (.agg (.pair (.int .i64) (.pair (.int .i64) (.pair (.int .i64) (.pair (.int .i64) (.pair (.int .i64) (.int .u64)))))))))), (1005, .row 67 (.agg (.pair (.int .i64) (.pair (.agg (.pair (.int .u16) .str)) (.pair (.int .i64) (.int .i64))))))]⟩)]⟩
noncomputable def T45 (n : Nat) : Tab := ⟨[e12 n, e15L n], []⟩
noncomputable def e45 (n : Nat) : Entry := c45.entry Tryd.prog (T45 n) n
theorem ok45 {W0 : World} (hL : Laid W0) (n : Nat) : FnOK Tryd.prog W0 (e45 n) := c45.sound (.cons (ok12 n) (.cons (ok15L hL n) .nil)) n Tryd.func45 (by kernel_rfl) (by kernel_rfl)
noncomputable def f45 (n : Nat) (x : (Int × (Int × (Int × (Int × (Int × Int)))))) (i : Int) : Option (List (Int × ((Int × ByteArray) × (Int × Int)))) := c45.f Tryd.prog (T45 n) n (x, i)
noncomputable def f45_6 (n m : Nat) (i : Int) (x9 : Int) (x10 : Int) (b1002 : (Int × (Int × (Int × (Int × (Int × Int)))))) (l1005 : List (Int × ((Int × ByteArray) × (Int × Int)))) : Option (List (Int × ((Int × ByteArray) × (Int × Int)))) := c45.LL Tryd.prog (T45 n) m 6 (i, (), (), x9, x10) (b1002, l1005, ())
theorem f45_6_zero (n : Nat) (i : Int) (x9 : Int) (x10 : Int) (b1002 : (Int × (Int × (Int × (Int × (Int × Int)))))) (l1005 : List (Int × ((Int × ByteArray) × (Int × Int)))) : f45_6 n 0 i x9 x10 b1002 l1005 = none := rfl
theorem f45_6_eq (n m : Nat) (i : Int) (x9 : Int) (x10 : Int) (b1002 : (Int × (Int × (Int × (Int × (Int × Int)))))) (l1005 : List (Int × ((Int × ByteArray) × (Int × Int)))) : f45_6 n (m + 1) i x9 x10 b1002 l1005 =
  bif decide (x10 < x9) then
   (f12 n b1002.snd.snd.snd.fst (Go.IntKind.i64.wrap (Go.IntKind.i64.wrap (i * (64 : Int)) + x10)) b1002.snd.snd.snd.snd.snd).bind fun r1 =>
   (f15L n r1).bind fun r2 =>
   bif decide ((l1005.length + [((1 : Int), r2, (0 : Int), (0 : Int))].length) * (48 : Nat) ≤ Go.Rf.maxBytes) then
    f45_6 n m i x9 (Go.IntKind.i64.wrap (x10 + (1 : Int))) b1002 (l1005 ++ [((1 : Int), r2, (0 : Int), (0 : Int))])
   else
    none
  else
   some l1005 := by kernel_rfl
theorem f45_eq (n : Nat) (x : (Int × (Int × (Int × (Int × (Int × Int)))))) (i : Int) : f45 n x i =
  f45_6 n n i x.snd.snd.fst (0 : Int) x [] := by kernel_rfl
/- (convoy/story.teller).leave -/
noncomputable def c46 : Cfg := ⟨46, Tryd.f46, [(.agg (.agg (.pair (.int .i64) (.pair (.int .i64) (.pair (.int .i64) (.pair (.int .i64) (.pair (.int .i64) (.int .u64)))))))), (.int .i64)], [(.sl 67 (.agg (.pair (.int .i64) (.pair (.agg (.pair (.int .u16) .str)) (.pair (.int .i64) (.int .i64))))))], 5, [], []⟩
noncomputable def T46 (n : Nat) : Tab := ⟨[], [e60o n]⟩
noncomputable def e46 (n : Nat) : Entry := c46.entry Tryd.prog (T46 n) n
theorem ok46 {W0 : World} (hL : Laid W0) (n : Nat) : FnOK Tryd.prog W0 (e46 n) := c46.sound (.ocons (ok60o hL n) .nil) n Tryd.func46 (by kernel_rfl) (by kernel_rfl)
noncomputable def f46 (n : Nat) (x : (Int × (Int × (Int × (Int × (Int × Int)))))) (i : Int) : Option (List (Int × ((Int × ByteArray) × (Int × Int)))) := c46.f Tryd.prog (T46 n) n (x, i)
theorem f46_eq (n : Nat) (x : (Int × (Int × (Int × (Int × (Int × Int)))))) (i : Int) : f46 n x i =
  (f60o n x i).bind fun r1 =>
  bif decide ((((List.replicate (1 : Nat) ((0 : Int), ((0 : Int), ByteArray.empty), (0 : Int), (0 : Int))).set (0 : Nat) ((9 : Int), ((0 : Int), ByteArray.empty), Go.IntKind.i64.wrap (i + (1 : Int)), (0 : Int))).length + List.length r1.snd.1) * (48 : Nat) ≤ Go.Rf.maxBytes) then
   bif decide ((([((9 : Int), ((0 : Int), ByteArray.empty), Go.IntKind.i64.wrap (i + (1 : Int)), (0 : Int))] ++ r1.snd.1).length + [((5 : Int), ((0 : Int), ByteArray.empty), Go.IntKind.i64.wrap (i + (1 : Int)), (0 : Int)), ((3 : Int), ((0 : Int), ByteArray.empty), (0 : Int), (0 : Int))].length) * (48 : Nat) ≤ Go.Rf.maxBytes) then
    some (((9 : Int), ((0 : Int), ByteArray.empty), Go.IntKind.i64.wrap (i + (1 : Int)), (0 : Int)) :: r1.snd.1 ++ [((5 : Int), ((0 : Int), ByteArray.empty), Go.IntKind.i64.wrap (i + (1 : Int)), (0 : Int)), ((3 : Int), ((0 : Int), ByteArray.empty), (0 : Int), (0 : Int))])
   else
    none
  else
   none := by kernel_rfl
/- (convoy/story.teller).forget -/
noncomputable def c47 : Cfg := ⟨47, Tryd.f47, [(.agg (.agg (.pair (.int .i64) (.pair (.int .i64) (.pair (.int .i64) (.pair (.int .i64) (.pair (.int .i64) (.int .u64)))))))), (.int .i64)], [(.sl 67 (.agg (.pair (.int .i64) (.pair (.agg (.pair (.int .u16) .str)) (.pair (.int .i64) (.int .i64))))))], 5, [], [(6, ⟨27, 5, [(1, (.val (.int .i64))), (2, (.ptr 1002 [])), (5, (.rs 1005)), (10, (.val (.int .i64))), (11, (.val (.int .i64)))], [(1002, .box (.val (.agg (.agg (.pair (.int .i64) (.pair (.int .i64) (.pair (.int .i64) (.pair (.int .i64) (.pair (.int .i64) (.int .u64)))))))))), (1005, .row 67 (.agg (.pair (.int .i64) (.pair (.agg (.pair (.int .u16) .str)) (.pair (.int .i64) (.int .i64))))))]⟩)]⟩
noncomputable def T47 (n : Nat) : Tab := ⟨[e59 n], []⟩
noncomputable def e47 (n : Nat) : Entry := c47.entry Tryd.prog (T47 n) n
theorem ok47 {W0 : World} (hL : Laid W0) (n : Nat) : FnOK Tryd.prog W0 (e47 n) := c47.sound (.cons (ok59 hL n) .nil) n Tryd.func47 (by kernel_rfl) (by kernel_rfl)
noncomputable def f47 (n : Nat) (x : (Int × (Int × (Int × (Int × (Int × Int)))))) (i : Int) : Option (List (Int × ((Int × ByteArray) × (Int × Int)))) := c47.f Tryd.prog (T47 n) n (x, i)
noncomputable def f47_6 (n m : Nat) (i : Int) (x10 : Int) (x11 : Int) (b1002 : (Int × (Int × (Int × (Int × (Int × Int)))))) (l1005 : List (Int × ((Int × ByteArray) × (Int × Int)))) : Option (List (Int × ((Int × ByteArray) × (Int × Int)))) := c47.LL Tryd.prog (T47 n) m 6 (i, (), (), x10, x11) (b1002, l1005, ())
theorem f47_6_zero (n : Nat) (i : Int) (x10 : Int) (x11 : Int) (b1002 : (Int × (Int × (Int × (Int × (Int × Int)))))) (l1005 : List (Int × ((Int × ByteArray) × (Int × Int)))) : f47_6 n 0 i x10 x11 b1002 l1005 = none := rfl
theorem f47_6_eq (n m : Nat) (i : Int) (x10 : Int) (x11 : Int) (b1002 : (Int × (Int × (Int × (Int × (Int × Int)))))) (l1005 : List (Int × ((Int × ByteArray) × (Int × Int)))) : f47_6 n (m + 1) i x10 x11 b1002 l1005 =
  bif decide (x11 < x10) then
   (f59 n b1002 i x11).bind fun r1 =>
   bif decide ((l1005.length + [((1 : Int), r1, (0 : Int), (0 : Int)), ((4 : Int), r1, (0 : Int), (0 : Int))].length) * (48 : Nat) ≤ Go.Rf.maxBytes) then
    f47_6 n m i x10 (Go.IntKind.i64.wrap (x11 + (1 : Int))) b1002 (l1005 ++ [((1 : Int), r1, (0 : Int), (0 : Int)), ((4 : Int), r1, (0 : Int), (0 : Int))])
   else
    none
  else
   some l1005 := by kernel_rfl
theorem f47_eq (n : Nat) (x : (Int × (Int × (Int × (Int × (Int × Int)))))) (i : Int) : f47 n x i =
  f47_6 n n i x.snd.snd.fst (0 : Int) x [] := by kernel_rfl
/- (convoy/story.teller).batch -/
noncomputable def c48 : Cfg := ⟨48, Tryd.f48, [(.agg (.agg (.pair (.int .i64) (.pair (.int .i64) (.pair (.int .i64) (.pair (.int .i64) (.pair (.int .i64) (.int .u64)))))))), (.int .i64)], [(.sl 67 (.agg (.pair (.int .i64) (.pair (.agg (.pair (.int .u16) .str)) (.pair (.int .i64) (.int .i64))))))], 5, [], [(6, ⟨24, 5, [(5, (.rs 2010)), (13, (.val (.int .i64))), (14, (.val (.int .i64)))], [(2010, .row 67 (.agg (.pair (.int .i64) (.pair (.agg (.pair (.int .u16) .str)) (.pair (.int .i64) (.int .i64))))))]⟩)]⟩
noncomputable def T48 (n : Nat) : Tab := ⟨[], [e60o n]⟩
noncomputable def e48 (n : Nat) : Entry := c48.entry Tryd.prog (T48 n) n
theorem ok48 {W0 : World} (hL : Laid W0) (n : Nat) : FnOK Tryd.prog W0 (e48 n) := c48.sound (.ocons (ok60o hL n) .nil) n Tryd.func48 (by kernel_rfl) (by kernel_rfl)
noncomputable def f48 (n : Nat) (x : (Int × (Int × (Int × (Int × (Int × Int)))))) (i : Int) : Option (List (Int × ((Int × ByteArray) × (Int × Int)))) := c48.f Tryd.prog (T48 n) n (x, i)
noncomputable def f48_6 (n m : Nat) (x13 : Int) (x14 : Int) (l2010 : List (Int × ((Int × ByteArray) × (Int × Int)))) : Option (List (Int × ((Int × ByteArray) × (Int × Int)))) := c48.LL Tryd.prog (T48 n) m 6 ((), x13, x14) (l2010, ())
theorem f48_6_zero (n : Nat) (x13 : Int) (x14 : Int) (l2010 : List (Int × ((Int × ByteArray) × (Int × Int)))) : f48_6 n 0 x13 x14 l2010 = none := rfl
theorem f48_6_eq (n m : Nat) (x13 : Int) (x14 : Int) (l2010 : List (Int × ((Int × ByteArray) × (Int × Int)))) : f48_6 n (m + 1) x13 x14 l2010 =
  bif decide (x14 < x13) then
   bif decide ((l2010.length + [((3 : Int), ((0 : Int), ByteArray.empty), (0 : Int), x14)].length) * (48 : Nat) ≤ Go.Rf.maxBytes) then
    f48_6 n m x13 (Go.IntKind.i64.wrap (x14 + (1 : Int))) (l2010 ++ [((3 : Int), ((0 : Int), ByteArray.empty), (0 : Int), x14)])
   else
    none
  else
   some l2010 := by kernel_rfl
theorem f48_eq (n : Nat) (x : (Int × (Int × (Int × (Int × (Int × Int)))))) (i : Int) : f48 n x i =
  (f60o n x i).bind fun r1 =>
  f48_6 n n (if (16 : Int) < x.snd.snd.fst then (16 : Int) else x.snd.snd.fst) (0 : Int) r1.snd.fst := by kernel_rfl
/- (convoy/story.teller).herd -/
noncomputable def c43L : Cfg := ⟨43, Tryd.f43, [(.agg (.agg (.pair (.int .i64) (.pair (.int .i64) (.pair (.int .i64) (.pair (.int .i64) (.pair (.int .i64) (.int .u64)))))))), (.int .i64)], [(.sl 67 (.agg (.pair (.int .i64) (.pair (.agg (.pair (.int .u16) .str)) (.pair (.int .i64) (.int .i64))))))], 5, [], [(6, ⟨18, 5, [(5, (.rs 1005)), (8, (.val (.int .i64))), (9, (.val (.int .i64)))], [(1005, .row 67 (.agg (.pair (.int .i64) (.pair (.agg (.pair (.int .u16) .str)) (.pair (.int .i64) (.int .i64))))))]⟩)]⟩
noncomputable def T43L (n : Nat) : Tab := ⟨[e15L n], []⟩
noncomputable def e43L (n : Nat) : Entry := c43L.entry Tryd.prog (T43L n) n
theorem ok43L {W0 : World} (hL : Laid W0) (n : Nat) : FnOK Tryd.prog W0 (e43L n) := c43L.sound (.cons (ok15L hL n) .nil) n Tryd.func43 (by kernel_rfl) (by kernel_rfl)
noncomputable def f43L (n : Nat) (x : (Int × (Int × (Int × (Int × (Int × Int)))))) (i : Int) : Option (List (Int × ((Int × ByteArray) × (Int × Int)))) := c43L.f Tryd.prog (T43L n) n (x, i)
noncomputable def f43L_6 (n m : Nat) (x8 : Int) (x9 : Int) (l1005 : List (Int × ((Int × ByteArray) × (Int × Int)))) : Option (List (Int × ((Int × ByteArray) × (Int × Int)))) := c43L.LL Tryd.prog (T43L n) m 6 ((), x8, x9) (l1005, ())
theorem f43L_6_zero (n : Nat) (x8 : Int) (x9 : Int) (l1005 : List (Int × ((Int × ByteArray) × (Int × Int)))) : f43L_6 n 0 x8 x9 l1005 = none := rfl
theorem f43L_6_eq (n m : Nat) (x8 : Int) (x9 : Int) (l1005 : List (Int × ((Int × ByteArray) × (Int × Int)))) : f43L_6 n (m + 1) x8 x9 l1005 =
  bif decide (x9 < x8) then
   (f15L n (0 : Int)).bind fun r1 =>
   bif decide ((l1005.length + [((1 : Int), r1, (0 : Int), (0 : Int))].length) * (48 : Nat) ≤ Go.Rf.maxBytes) then
    f43L_6 n m x8 (Go.IntKind.i64.wrap (x9 + (1 : Int))) (l1005 ++ [((1 : Int), r1, (0 : Int), (0 : Int))])
   else
    none
  else
   some l1005 := by kernel_rfl
theorem f43L_eq (n : Nat) (x : (Int × (Int × (Int × (Int × (Int × Int)))))) (i : Int) : f43L n x i =
  f43L_6 n n x.snd.snd.fst (0 : Int) [] := by kernel_rfl
/- (convoy/story.teller).program -/
noncomputable def c31L : Cfg := ⟨31, Tryd.f31, [(.agg (.agg (.pair (.int .i64) (.pair (.int .i64) (.pair (.int .i64) (.pair (.int .i64) (.pair (.int .i64) (.int .u64)))))))), (.int .i64)], [(.sl 67 (.agg (.pair (.int .i64) (.pair (.agg (.pair (.int .u16) .str)) (.pair (.int .i64) (.int .i64))))))], 6, [], []⟩
noncomputable def T31L (n : Nat) : Tab := ⟨[e43L n, e44 n, e45 n, e46 n, e47 n, e48 n], []⟩
noncomputable def e31L (n : Nat) : Entry := c31L.entry Tryd.prog (T31L n) n
theorem ok31L {W0 : World} (hL : Laid W0) (n : Nat) : FnOK Tryd.prog W0 (e31L n) := c31L.sound (.cons (ok43L hL n) (.cons (ok44 hL n) (.cons (ok45 hL n) (.cons (ok46 hL n) (.cons (ok47 hL n) (.cons (ok48 hL n) .nil)))))) n Tryd.func31 (by kernel_rfl) (by kernel_rfl)
noncomputable def f31L (n : Nat) (x : (Int × (Int × (Int × (Int × (Int × Int)))))) (i : Int) : Option (List (Int × ((Int × ByteArray) × (Int × Int)))) := c31L.f Tryd.prog (T31L n) n (x, i)
theorem f31L_eq (n : Nat) (x : (Int × (Int × (Int × (Int × (Int × Int)))))) (i : Int) : f31L n x i =
  bif x.fst == (2 : Int) then
   (f44 n x i).bind fun r1 =>
   some r1
  else
   bif x.fst == (3 : Int) then
    (f45 n x i).bind fun r2 =>
    some r2
   else
    bif x.fst == (4 : Int) then
     (f46 n x i).bind fun r3 =>
     some r3
    else
     bif x.fst == (5 : Int) then
      (f47 n x i).bind fun r4 =>
      some r4
     else
      bif x.fst == (6 : Int) then
       (f48 n x i).bind fun r5 =>
       some r5
      else
       (f43L n x i).bind fun r6 =>
       some r6 := by kernel_rfl
/- convoy/story.Make -/
noncomputable def c17L : Cfg := ⟨17, Tryd.f17, [(.agg (.pair (.int .i64) (.pair (.int .i64) (.pair (.int .i64) (.pair (.int .i64) (.pair (.int .i64) (.int .u64))))))), (.agg (.pair (.int .i64) (.pair (.int .i64) (.pair (.int .i64) (.pair (.int .i64) (.pair (.int .i64) (.pair (.int .i64) (.int .i64))))))))], [(.agg (.pair (.agg (.pair (.int .i64) (.pair (.int .i64) (.pair (.int .i64) (.pair (.int .i64) (.pair (.int .i64) (.pair (.int .i64) (.int .i64)))))))) (.pair (.sl 77 (.agg (.pair (.agg (.pair (.int .u16) .str)) (.sl 74 (.agg (.pair (.int .i64) (.pair (.int .i64) (.int .i64)))))))) (.pair (.sl 65 (.sl 67 (.agg (.pair (.int .i64) (.pair (.agg (.pair (.int .u16) .str)) (.pair (.int .i64) (.int .i64))))))) (.pair (.int .i64) (.pair (.int .u64) (.sl 3 (.int .i64)))))))), (.int .i64)], 6, [], [(12, ⟨58, 6, [(2, (.ptr 1002 [])), (4, (.ptr 1004 [])), (7, (.ptr 1007 [])), (22, (.val (.int .i64))), (23, (.val (.int .i64)))], [(1002, .box (.val (.agg (.pair (.int .i64) (.pair (.int .i64) (.pair (.int .i64) (.pair (.int .i64) (.pair (.int .i64) (.int .u64))))))))), (1004, .box (.agg (.pair (.val (.agg (.pair (.int .i64) (.pair (.int .i64) (.pair (.int .i64) (.pair (.int .i64) (.pair (.int .i64) (.pair (.int .i64) (.int .i64))))))))) (.pair (.rs 700401) (.pair (.rs 700402) (.pair (.val (.int .i64)) (.pair (.val (.int .u64)) (.rs 700405)))))))), (1007, .box (.agg (.pair (.val (.agg (.pair (.int .i64) (.pair (.int .i64) (.pair (.int .i64) (.pair (.int .i64) (.pair (.int .i64) (.pair (.int .i64) (.int .i64))))))))) (.pair (.rs 700701) (.pair (.rs 700702) (.pair (.val (.int .i64)) (.pair (.val (.int .u64)) (.rs 700705)))))))), (700401, .row 77 (.agg (.pair (.agg (.pair (.int .u16) .str)) (.sl 74 (.agg (.pair (.int .i64) (.pair (.int .i64) (.int .i64)))))))), (700402, .row 65 (.sl 67 (.agg (.pair (.int .i64) (.pair (.agg (.pair (.int .u16) .str)) (.pair (.int .i64) (.int .i64))))))), (700405, .row 3 (.int .i64)), (700701, .row 77 (.agg (.pair (.agg (.pair (.int .u16) .str)) (.sl 74 (.agg (.pair (.int .i64) (.pair (.int .i64) (.int .i64)))))))), (700702, .row 65 (.sl 67 (.agg (.pair (.int .i64) (.pair (.agg (.pair (.int .u16) .str)) (.pair (.int .i64) (.int .i64))))))), (700705, .row 3 (.int .i64))]⟩), (24, ⟨58, 6, [(4, (.ptr 1004 [])), (7, (.ptr 1007 [])), (9, (.ptr 1009 [])), (44, (.val (.int .i64))), (45, (.val (.int .i64)))], [(1004, .box (.agg (.pair (.val (.agg (.pair (.int .i64) (.pair (.int .i64) (.pair (.int .i64) (.pair (.int .i64) (.pair (.int .i64) (.pair (.int .i64) (.int .i64))))))))) (.pair (.rs 700401) (.pair (.rs 700402) (.pair (.val (.int .i64)) (.pair (.val (.int .u64)) (.rs 700405)))))))), (1007, .box (.agg (.pair (.val (.agg (.pair (.int .i64) (.pair (.int .i64) (.pair (.int .i64) (.pair (.int .i64) (.pair (.int .i64) (.pair (.int .i64) (.int .i64))))))))) (.pair (.rs 700701) (.pair (.rs 700702) (.pair (.val (.int .i64)) (.pair (.val (.int .u64)) (.rs 700705)))))))), (1009, .box (.val (.agg (.agg (.pair (.int .i64) (.pair (.int .i64) (.pair (.int .i64) (.pair (.int .i64) (.pair (.int .i64) (.int .u64)))))))))), (700401, .row 77 (.agg (.pair (.agg (.pair (.int .u16) .str)) (.sl 74 (.agg (.pair (.int .i64) (.pair (.int .i64) (.int .i64)))))))), (700402, .row 65 (.sl 67 (.agg (.pair (.int .i64) (.pair (.agg (.pair (.int .u16) .str)) (.pair (.int .i64) (.int .i64))))))), (700405, .row 3 (.int .i64)), (700701, .row 77 (.agg (.pair (.agg (.pair (.int .u16) .str)) (.sl 74 (.agg (.pair (.int .i64) (.pair (.int .i64) (.int .i64)))))))), (700702, .row 65 (.sl 67 (.agg (.pair (.int .i64) (.pair (.agg (.pair (.int .u16) .str)) (.pair (.int .i64) (.int .i64))))))), (700705, .row 3 (.int .i64))]⟩)]⟩
noncomputable def T17L (n : Nat) : Tab := ⟨[e20 n, e15L n, e31L n], []⟩
noncomputable def e17L (n : Nat) : Entry := c17L.entry Tryd.prog (T17L n) n
theorem ok17L {W0 : World} (hL : Laid W0) (n : Nat) : FnOK Tryd.prog W0 (e17L n) := c17L.sound (.cons (ok20 n) (.cons (ok15L hL n) (.cons (ok31L hL n) .nil))) n Tryd.func17 (by kernel_rfl) (by kernel_rfl)
noncomputable def f17L (n : Nat) (t : (Int × (Int × (Int × (Int × (Int × Int)))))) (c : (Int × (Int × (Int × (Int × (Int × (Int × Int))))))) : Option (((Int × (Int × (Int × (Int × (Int × (Int × Int)))))) × (List ((Int × ByteArray) × List (Int × (Int × Int))) × (List (List (Int × ((Int × ByteArray) × (Int × Int)))) × (Int × (Int × List Int))))) × Int) := c17L.f Tryd.prog (T17L n) n (t, c)
noncomputable def f17L_12 (n m : Nat) (x22 : Int) (x23 : Int) (b1002 : (Int × (Int × (Int × (Int × (Int × Int)))))) (b1004a : (Int × (Int × (Int × (Int × (Int × (Int × Int))))))) (b1004bbba : Int) (b1004bbbba : Int) (b1007a : (Int × (Int × (Int × (Int × (Int × (Int × Int))))))) (b1007bbba : Int) (b1007bbbba : Int) (l700401 : List ((Int × ByteArray) × List (Int × (Int × Int)))) (l700402 : List (List (Int × ((Int × ByteArray) × (Int × Int))))) (l700405 : List Int) (l700701 : List ((Int × ByteArray) × List (Int × (Int × Int)))) (l700702 : List (List (Int × ((Int × ByteArray) × (Int × Int))))) (l700705 : List Int) : Option (((Int × (Int × (Int × (Int × (Int × (Int × Int)))))) × (List ((Int × ByteArray) × List (Int × (Int × Int))) × (List (List (Int × ((Int × ByteArray) × (Int × Int)))) × (Int × (Int × List Int))))) × Int) := c17L.LL Tryd.prog (T17L n) m 12 ((), (), (), x22, x23) (b1002, (b1004a, ((), ((), (b1004bbba, (b1004bbbba, ()))))), (b1007a, ((), ((), (b1007bbba, (b1007bbbba, ()))))), l700401, l700402, l700405, l700701, l700702, l700705, ())
noncomputable def f17L_24 (n m : Nat) (x44 : Int) (x45 : Int) (b1004a : (Int × (Int × (Int × (Int × (Int × (Int × Int))))))) (b1004bbba : Int) (b1004bbbba : Int) (b1007a : (Int × (Int × (Int × (Int × (Int × (Int × Int))))))) (b1007bbba : Int) (b1007bbbba : Int) (b1009 : (Int × (Int × (Int × (Int × (Int × Int)))))) (l700401 : List ((Int × ByteArray) × List (Int × (Int × Int)))) (l700402 : List (List (Int × ((Int × ByteArray) × (Int × Int))))) (l700405 : List Int) (l700701 : List ((Int × ByteArray) × List (Int × (Int × Int)))) (l700702 : List (List (Int × ((Int × ByteArray) × (Int × Int))))) (l700705 : List Int) : Option (((Int × (Int × (Int × (Int × (Int × (Int × Int)))))) × (List ((Int × ByteArray) × List (Int × (Int × Int))) × (List (List (Int × ((Int × ByteArray) × (Int × Int)))) × (Int × (Int × List Int))))) × Int) := c17L.LL Tryd.prog (T17L n) m 24 ((), (), (), x44, x45) ((b1004a, ((), ((), (b1004bbba, (b1004bbbba, ()))))), (b1007a, ((), ((), (b1007bbba, (b1007bbbba, ()))))), b1009, l700401, l700402, l700405, l700701, l700702, l700705, ())
theorem f17L_12_zero (n : Nat) (x22 : Int) (x23 : Int) (b1002 : (Int × (Int × (Int × (Int × (Int × Int)))))) (b1004a : (Int × (Int × (Int × (Int × (Int × (Int × Int))))))) (b1004bbba : Int) (b1004bbbba : Int) (b1007a : (Int × (Int × (Int × (Int × (Int × (Int × Int))))))) (b1007bbba : Int) (b1007bbbba : Int) (l700401 : List ((Int × ByteArray) × List (Int × (Int × Int)))) (l700402 : List (List (Int × ((Int × ByteArray) × (Int × Int))))) (l700405 : List Int) (l700701 : List ((Int × ByteArray) × List (Int × (Int × Int)))) (l700702 : List (List (Int × ((Int × ByteArray) × (Int × Int))))) (l700705 : List Int) : f17L_12 n 0 x22 x23 b1002 b1004a b1004bbba b1004bbbba b1007a b1007bbba b1007bbbba l700401 l700402 l700405 l700701 l700702 l700705 = none := rfl
theorem f17L_12_eq (n m : Nat) (x22 : Int) (x23 : Int) (b1002 : (Int × (Int × (Int × (Int × (Int × Int)))))) (b1004a : (Int × (Int × (Int × (Int × (Int × (Int × Int))))))) (b1004bbba : Int) (b1004bbbba : Int) (b1007a : (Int × (Int × (Int × (Int × (Int × (Int × Int))))))) (b1007bbba : Int) (b1007bbbba : Int) (l700401 : List ((Int × ByteArray) × List (Int × (Int × Int)))) (l700402 : List (List (Int × ((Int × ByteArray) × (Int × Int))))) (l700405 : List Int) (l700701 : List ((Int × ByteArray) × List (Int × (Int × Int)))) (l700702 : List (List (Int × ((Int × ByteArray) × (Int × Int))))) (l700705 : List Int) : f17L_12 n (m + 1) x22 x23 b1002 b1004a b1004bbba b1004bbbba b1007a b1007bbba b1007bbbba l700401 l700402 l700405 l700701 l700702 l700705 =
  bif decide (x23 < x22) then
   Go.Rf.both ((f15L n x23).bind fun r1 =>
    bif decide ((l700701.length + [(r1, [((7 : Int), b1002.snd.snd.snd.snd.fst, (0 : Int)), ((3 : Int), (0 : Int), (0 : Int)), ((10 : Int), (0 : Int), (0 : Int))])].length) * (48 : Nat) ≤ Go.Rf.maxBytes) then
     f17L_12 n m x22 (Go.IntKind.i64.wrap (x23 + (1 : Int))) b1002 b1004a b1004bbba b1004bbbba b1007a b1007bbba b1007bbbba l700401 l700402 l700405 (l700701 ++ [(r1, [((7 : Int), b1002.snd.snd.snd.snd.fst, (0 : Int)), ((3 : Int), (0 : Int), (0 : Int)), ((10 : Int), (0 : Int), (0 : Int))])]) l700702 l700705
    else
     none)
    ((f15L n x23).bind fun r2 =>
    bif decide ((l700701.length + [(r2, [((7 : Int), b1002.snd.snd.snd.snd.fst, (0 : Int)), ((3 : Int), (0 : Int), (0 : Int)), ((10 : Int), (0 : Int), (0 : Int))])].length) * (48 : Nat) ≤ Go.Rf.maxBytes) then
     f17L_12 n m x22 (Go.IntKind.i64.wrap (x23 + (1 : Int))) b1002 b1004a b1004bbba b1004bbbba b1007a b1007bbba b1007bbbba l700401 l700402 l700405 (l700701 ++ [(r2, [((7 : Int), b1002.snd.snd.snd.snd.fst, (0 : Int)), ((3 : Int), (0 : Int), (0 : Int)), ((10 : Int), (0 : Int), (0 : Int))])]) l700702 l700705
    else
     none)
  else
   f17L_24 n m b1002.snd.fst (0 : Int) b1004a b1004bbba b1004bbbba b1007a b1007bbba b1007bbbba b1002 l700401 l700402 l700405 l700701 l700702 l700705 := by kernel_rfl
theorem f17L_24_zero (n : Nat) (x44 : Int) (x45 : Int) (b1004a : (Int × (Int × (Int × (Int × (Int × (Int × Int))))))) (b1004bbba : Int) (b1004bbbba : Int) (b1007a : (Int × (Int × (Int × (Int × (Int × (Int × Int))))))) (b1007bbba : Int) (b1007bbbba : Int) (b1009 : (Int × (Int × (Int × (Int × (Int × Int)))))) (l700401 : List ((Int × ByteArray) × List (Int × (Int × Int)))) (l700402 : List (List (Int × ((Int × ByteArray) × (Int × Int))))) (l700405 : List Int) (l700701 : List ((Int × ByteArray) × List (Int × (Int × Int)))) (l700702 : List (List (Int × ((Int × ByteArray) × (Int × Int))))) (l700705 : List Int) : f17L_24 n 0 x44 x45 b1004a b1004bbba b1004bbbba b1007a b1007bbba b1007bbbba b1009 l700401 l700402 l700405 l700701 l700702 l700705 = none := rfl
theorem f17L_24_eq (n m : Nat) (x44 : Int) (x45 : Int) (b1004a : (Int × (Int × (Int × (Int × (Int × (Int × Int))))))) (b1004bbba : Int) (b1004bbbba : Int) (b1007a : (Int × (Int × (Int × (Int × (Int × (Int × Int))))))) (b1007bbba : Int) (b1007bbbba : Int) (b1009 : (Int × (Int × (Int × (Int × (Int × Int)))))) (l700401 : List ((Int × ByteArray) × List (Int × (Int × Int)))) (l700402 : List (List (Int × ((Int × ByteArray) × (Int × Int))))) (l700405 : List Int) (l700701 : List ((Int × ByteArray) × List (Int × (Int × Int)))) (l700702 : List (List (Int × ((Int × ByteArray) × (Int × Int))))) (l700705 : List Int) : f17L_24 n (m + 1) x44 x45 b1004a b1004bbba b1004bbbba b1007a b1007bbba b1007bbbba b1009 l700401 l700402 l700405 l700701 l700702 l700705 =
  bif decide (x45 < x44) then
   (f31L n b1009 x45).bind fun r1 =>
   bif decide ((l700702.length + [r1].length) * (24 : Nat) ≤ Go.Rf.maxBytes) then
    f17L_24 n m x44 (Go.IntKind.i64.wrap (x45 + (1 : Int))) b1004a b1004bbba b1004bbbba b1007a b1007bbba b1007bbbba b1009 l700401 l700402 l700405 l700701 (l700702 ++ [r1]) l700705
   else
    none
  else
   some ((b1007a, l700701, l700702, b1007bbba, b1007bbbba, l700705), (0 : Int)) := by kernel_rfl
theorem f17L_eq (n : Nat) (t : (Int × (Int × (Int × (Int × (Int × Int)))))) (c : (Int × (Int × (Int × (Int × (Int × (Int × Int))))))) : f17L n t c =
  (f20 n t).bind fun r1 =>
  bif r1 != (0 : Int) then
   some ((((0 : Int), (0 : Int), (0 : Int), (0 : Int), (0 : Int), (0 : Int), (0 : Int)), [], [], (0 : Int), (0 : Int), []), r1)
  else
   f17L_12 n n t.snd.snd.snd.fst (0 : Int) t (((0 : Int), (0 : Int), (0 : Int), (0 : Int), (0 : Int), (0 : Int), (0 : Int))) (0 : Int) (0 : Int) c (0 : Int) t.snd.snd.snd.snd.snd [] [] [] [] [] [] := by kernel_rfl
/- convoy/convoyref29.program -/
noncomputable def c35 : Cfg := ⟨35, Tryd.f35, [(.agg (.pair (.int .i64) (.pair (.int .i64) (.pair (.int .i64) (.pair (.int .i64) (.pair (.int .i64) (.int .u64))))))), (.int .i64)], [(.sl 89 (.agg (.pair (.int .i64) (.pair (.agg (.pair (.int .u16) .str)) (.pair (.int .i64) (.int .i64))))))], 7, [], [(10, ⟨119, 7, [(1, (.val (.int .i64))), (2, (.ptr 1002 [])), (5, (.rs 1010)), (6, (.val (.int .i64)))], [(1002, .box (.val (.agg (.pair (.int .i64) (.pair (.int .i64) (.pair (.int .i64) (.pair (.int .i64) (.pair (.int .i64) (.int .u64))))))))), (1010, .row 89 (.agg (.pair (.int .i64) (.pair (.agg (.pair (.int .u16) .str)) (.pair (.int .i64) (.int .i64))))))]⟩), (48, ⟨119, 7, [(2, (.ptr 1002 [])), (5, (.rs 1010)), (9, (.val (.int .i64)))], [(1002, .box (.val (.agg (.pair (.int .i64) (.pair (.int .i64) (.pair (.int .i64) (.pair (.int .i64) (.pair (.int .i64) (.int .u64))))))))), (1010, .row 89 (.agg (.pair (.int .i64) (.pair (.agg (.pair (.int .u16) .str)) (.pair (.int .i64) (.int .i64))))))]⟩)]⟩
noncomputable def T35 (n : Nat) : Tab := ⟨[e16 n, e13 n], []⟩
noncomputable def e35 (n : Nat) : Entry := c35.entry Tryd.prog (T35 n) n
theorem ok35 {W0 : World} (n : Nat) : FnOK Tryd.prog W0 (e35 n) := c35.sound (.cons (ok16 n) (.cons (ok13 n) .nil)) n Tryd.func35 (by kernel_rfl) (by kernel_rfl)
noncomputable def f35 (n : Nat) (t : (Int × (Int × (Int × (Int × (Int × Int)))))) (i : Int) : Option (List (Int × ((Int × ByteArray) × (Int × Int)))) := c35.f Tryd.prog (T35 n) n (t, i)
noncomputable def f35_10 (n m : Nat) (i : Int) (j : Int) (b1002 : (Int × (Int × (Int × (Int × (Int × Int)))))) (l1010 : List (Int × ((Int × ByteArray) × (Int × Int)))) : Option (List (Int × ((Int × ByteArray) × (Int × Int)))) := c35.LL Tryd.prog (T35 n) m 10 (i, (), (), j) (b1002, l1010, ())
noncomputable def f35_48 (n m : Nat) (slot : Int) (b1002 : (Int × (Int × (Int × (Int × (Int × Int)))))) (l1010 : List (Int × ((Int × ByteArray) × (Int × Int)))) : Option (List (Int × ((Int × ByteArray) × (Int × Int)))) := c35.LL Tryd.prog (T35 n) m 48 ((), (), slot) (b1002, l1010, ())
theorem f35_10_zero (n : Nat) (i : Int) (j : Int) (b1002 : (Int × (Int × (Int × (Int × (Int × Int)))))) (l1010 : List (Int × ((Int × ByteArray) × (Int × Int)))) : f35_10 n 0 i j b1002 l1010 = none := rfl
theorem f35_10_eq (n m : Nat) (i : Int) (j : Int) (b1002 : (Int × (Int × (Int × (Int × (Int × Int)))))) (l1010 : List (Int × ((Int × ByteArray) × (Int × Int)))) : f35_10 n (m + 1) i j b1002 l1010 =
  bif decide (j < b1002.snd.snd.fst) then
   bif decide (b1002.snd.snd.snd.fst = (0 : Int)) then
    none
   else
    (f16 n ((Go.IntKind.i64.wrap (i + j)).tmod b1002.snd.snd.snd.fst)).bind fun r1 =>
    bif b1002.fst == (1 : Int) then
     (f16 n (0 : Int)).bind fun r2 =>
     bif decide ((l1010.length + [((1 : Int), r2, (0 : Int), (0 : Int))].length) * (48 : Nat) ≤ Go.Rf.maxBytes) then
      f35_10 n m i (Go.IntKind.i64.wrap (j + (1 : Int))) b1002 (l1010 ++ [((1 : Int), r2, (0 : Int), (0 : Int))])
     else
      none
    else
     bif b1002.fst == (2 : Int) then
      bif decide ((l1010.length + [((8 : Int), ((0 : Int), ByteArray.empty), b1002.snd.snd.snd.snd.fst, (0 : Int)), ((1 : Int), r1, (0 : Int), (0 : Int))].length) * (48 : Nat) ≤ Go.Rf.maxBytes) then
       f35_10 n m i (Go.IntKind.i64.wrap (j + (1 : Int))) b1002 (l1010 ++ [((8 : Int), ((0 : Int), ByteArray.empty), b1002.snd.snd.snd.snd.fst, (0 : Int)), ((1 : Int), r1, (0 : Int), (0 : Int))])
      else
       none
     else
      bif b1002.fst == (3 : Int) then
       (f13 n b1002.snd.snd.snd.fst (Go.IntKind.i64.wrap (Go.IntKind.i64.wrap (i * (64 : Int)) + j)) b1002.snd.snd.snd.snd.snd).bind fun r3 =>
       (f16 n r3).bind fun r4 =>
       bif decide ((l1010.length + [((1 : Int), r4, (0 : Int), (0 : Int))].length) * (48 : Nat) ≤ Go.Rf.maxBytes) then
        f35_10 n m i (Go.IntKind.i64.wrap (j + (1 : Int))) b1002 (l1010 ++ [((1 : Int), r4, (0 : Int), (0 : Int))])
       else
        none
      else
       bif b1002.fst == (4 : Int) then
        bif b1002.fst == (4 : Int) then
         bif decide ((l1010.length + [((2 : Int), r1, (0 : Int), j.tmod (16 : Int))].length) * (48 : Nat) ≤ Go.Rf.maxBytes) then
          f35_10 n m i (Go.IntKind.i64.wrap (j + (1 : Int))) b1002 (l1010 ++ [((2 : Int), r1, (0 : Int), j.tmod (16 : Int))])
         else
          none
        else
         bif b1002.fst == (5 : Int) then
          bif decide ((l1010.length + [((1 : Int), r1, (0 : Int), (0 : Int)), ((4 : Int), r1, (0 : Int), (0 : Int))].length) * (48 : Nat) ≤ Go.Rf.maxBytes) then
           f35_10 n m i (Go.IntKind.i64.wrap (j + (1 : Int))) b1002 (l1010 ++ [((1 : Int), r1, (0 : Int), (0 : Int)), ((4 : Int), r1, (0 : Int), (0 : Int))])
          else
           none
         else
          f35_10 n m i (Go.IntKind.i64.wrap (j + (1 : Int))) b1002 l1010
       else
        bif b1002.fst == (6 : Int) then
         bif decide ((l1010.length + [((2 : Int), r1, (0 : Int), j.tmod (16 : Int))].length) * (48 : Nat) ≤ Go.Rf.maxBytes) then
          f35_10 n m i (Go.IntKind.i64.wrap (j + (1 : Int))) b1002 (l1010 ++ [((2 : Int), r1, (0 : Int), j.tmod (16 : Int))])
         else
          none
        else
         bif b1002.fst == (5 : Int) then
          bif decide ((l1010.length + [((1 : Int), r1, (0 : Int), (0 : Int)), ((4 : Int), r1, (0 : Int), (0 : Int))].length) * (48 : Nat) ≤ Go.Rf.maxBytes) then
           f35_10 n m i (Go.IntKind.i64.wrap (j + (1 : Int))) b1002 (l1010 ++ [((1 : Int), r1, (0 : Int), (0 : Int)), ((4 : Int), r1, (0 : Int), (0 : Int))])
          else
           none
         else
          f35_10 n m i (Go.IntKind.i64.wrap (j + (1 : Int))) b1002 l1010
  else
   bif b1002.fst == (4 : Int) then
    bif decide ((l1010.length + [((5 : Int), ((0 : Int), ByteArray.empty), Go.IntKind.i64.wrap (i + (1 : Int)), (0 : Int)), ((3 : Int), ((0 : Int), ByteArray.empty), (0 : Int), (0 : Int))].length) * (48 : Nat) ≤ Go.Rf.maxBytes) then
     f35_48 n m (0 : Int) b1002 (l1010 ++ [((5 : Int), ((0 : Int), ByteArray.empty), Go.IntKind.i64.wrap (i + (1 : Int)), (0 : Int)), ((3 : Int), ((0 : Int), ByteArray.empty), (0 : Int), (0 : Int))])
    else
     none
   else
    f35_48 n m (0 : Int) b1002 l1010 := by kernel_rfl
theorem f35_48_zero (n : Nat) (slot : Int) (b1002 : (Int × (Int × (Int × (Int × (Int × Int)))))) (l1010 : List (Int × ((Int × ByteArray) × (Int × Int)))) : f35_48 n 0 slot b1002 l1010 = none := rfl
theorem f35_48_eq (n m : Nat) (slot : Int) (b1002 : (Int × (Int × (Int × (Int × (Int × Int)))))) (l1010 : List (Int × ((Int × ByteArray) × (Int × Int)))) : f35_48 n (m + 1) slot b1002 l1010 =
  bif decide (slot < (16 : Int)) then
   bif decide (slot < b1002.snd.snd.fst) then
    bif b1002.fst == (6 : Int) then
     bif decide ((l1010.length + [((3 : Int), ((0 : Int), ByteArray.empty), (0 : Int), slot)].length) * (48 : Nat) ≤ Go.Rf.maxBytes) then
      f35_48 n m (Go.IntKind.i64.wrap (slot + (1 : Int))) b1002 (l1010 ++ [((3 : Int), ((0 : Int), ByteArray.empty), (0 : Int), slot)])
     else
      none
    else
     some l1010
   else
    some l1010
  else
   some l1010 := by kernel_rfl
theorem f35_eq (n : Nat) (t : (Int × (Int × (Int × (Int × (Int × Int)))))) (i : Int) : f35 n t i =
  bif t.fst == (4 : Int) then
   f35_10 n n i (0 : Int) t ([] ++ [((9 : Int), ((0 : Int), ByteArray.empty), Go.IntKind.i64.wrap (i + (1 : Int)), (0 : Int))])
  else
   f35_10 n n i (0 : Int) t [] := by kernel_rfl
/- convoy/convoyref29.Make -/
noncomputable def c22 : Cfg := ⟨22, Tryd.f22, [(.agg (.pair (.int .i64) (.pair (.int .i64) (.pair (.int .i64) (.pair (.int .i64) (.pair (.int .i64) (.int .u64))))))), (.agg (.pair (.int .i64) (.pair (.int .i64) (.pair (.int .i64) (.pair (.int .i64) (.pair (.int .i64) (.pair (.int .i64) (.int .i64))))))))], [(.agg (.pair (.agg (.pair (.int .i64) (.pair (.int .i64) (.pair (.int .i64) (.pair (.int .i64) (.pair (.int .i64) (.pair (.int .i64) (.int .i64)))))))) (.pair (.sl 85 (.agg (.pair (.agg (.pair (.int .u16) .str)) (.sl 86 (.agg (.pair (.int .i64) (.pair (.int .i64) (.int .i64)))))))) (.pair (.sl 87 (.sl 89 (.agg (.pair (.int .i64) (.pair (.agg (.pair (.int .u16) .str)) (.pair (.int .i64) (.int .i64))))))) (.pair (.int .i64) (.pair (.int .u64) (.sl 3 (.int .i64))))))))], 6, [], [(6, ⟨47, 6, [(2, (.ptr 1002 [])), (4, (.ptr 1004 [])), (5, (.ptr 1005 [])), (6, (.val (.int .i64)))], [(1002, .box (.val (.agg (.pair (.int .i64) (.pair (.int .i64) (.pair (.int .i64) (.pair (.int .i64) (.pair (.int .i64) (.int .u64))))))))), (1004, .box (.agg (.pair (.val (.agg (.pair (.int .i64) (.pair (.int .i64) (.pair (.int .i64) (.pair (.int .i64) (.pair (.int .i64) (.pair (.int .i64) (.int .i64))))))))) (.pair (.rs 700401) (.pair (.rs 700402) (.pair (.val (.int .i64)) (.pair (.val (.int .u64)) (.rs 700405)))))))), (1005, .box (.agg (.pair (.val (.agg (.pair (.int .i64) (.pair (.int .i64) (.pair (.int .i64) (.pair (.int .i64) (.pair (.int .i64) (.pair (.int .i64) (.int .i64))))))))) (.pair (.rs 700501) (.pair (.rs 700502) (.pair (.val (.int .i64)) (.pair (.val (.int .u64)) (.rs 700505)))))))), (700401, .row 85 (.agg (.pair (.agg (.pair (.int .u16) .str)) (.sl 86 (.agg (.pair (.int .i64) (.pair (.int .i64) (.int .i64)))))))), (700402, .row 87 (.sl 89 (.agg (.pair (.int .i64) (.pair (.agg (.pair (.int .u16) .str)) (.pair (.int .i64) (.int .i64))))))), (700405, .row 3 (.int .i64)), (700501, .row 85 (.agg (.pair (.agg (.pair (.int .u16) .str)) (.sl 86 (.agg (.pair (.int .i64) (.pair (.int .i64) (.int .i64)))))))), (700502, .row 87 (.sl 89 (.agg (.pair (.int .i64) (.pair (.agg (.pair (.int .u16) .str)) (.pair (.int .i64) (.int .i64))))))), (700505, .row 3 (.int .i64))]⟩), (14, ⟨47, 6, [(2, (.ptr 1002 [])), (4, (.ptr 1004 [])), (5, (.ptr 1005 [])), (7, (.val (.int .i64)))], [(1002, .box (.val (.agg (.pair (.int .i64) (.pair (.int .i64) (.pair (.int .i64) (.pair (.int .i64) (.pair (.int .i64) (.int .u64))))))))), (1004, .box (.agg (.pair (.val (.agg (.pair (.int .i64) (.pair (.int .i64) (.pair (.int .i64) (.pair (.int .i64) (.pair (.int .i64) (.pair (.int .i64) (.int .i64))))))))) (.pair (.rs 700401) (.pair (.rs 700402) (.pair (.val (.int .i64)) (.pair (.val (.int .u64)) (.rs 700405)))))))), (1005, .box (.agg (.pair (.val (.agg (.pair (.int .i64) (.pair (.int .i64) (.pair (.int .i64) (.pair (.int .i64) (.pair (.int .i64) (.pair (.int .i64) (.int .i64))))))))) (.pair (.rs 700501) (.pair (.rs 700502) (.pair (.val (.int .i64)) (.pair (.val (.int .u64)) (.rs 700505)))))))), (700401, .row 85 (.agg (.pair (.agg (.pair (.int .u16) .str)) (.sl 86 (.agg (.pair (.int .i64) (.pair (.int .i64) (.int .i64)))))))), (700402, .row 87 (.sl 89 (.agg (.pair (.int .i64) (.pair (.agg (.pair (.int .u16) .str)) (.pair (.int .i64) (.int .i64))))))), (700405, .row 3 (.int .i64)), (700501, .row 85 (.agg (.pair (.agg (.pair (.int .u16) .str)) (.sl 86 (.agg (.pair (.int .i64) (.pair (.int .i64) (.int .i64)))))))), (700502, .row 87 (.sl 89 (.agg (.pair (.int .i64) (.pair (.agg (.pair (.int .u16) .str)) (.pair (.int .i64) (.int .i64))))))), (700505, .row 3 (.int .i64))]⟩)]⟩
noncomputable def T22 (n : Nat) : Tab := ⟨[e16 n, e35 n], []⟩
noncomputable def e22 (n : Nat) : Entry := c22.entry Tryd.prog (T22 n) n
theorem ok22 {W0 : World} (n : Nat) : FnOK Tryd.prog W0 (e22 n) := c22.sound (.cons (ok16 n) (.cons (ok35 n) .nil)) n Tryd.func22 (by kernel_rfl) (by kernel_rfl)
noncomputable def f22 (n : Nat) (t : (Int × (Int × (Int × (Int × (Int × Int)))))) (c : (Int × (Int × (Int × (Int × (Int × (Int × Int))))))) : Option (((Int × (Int × (Int × (Int × (Int × (Int × Int)))))) × (List ((Int × ByteArray) × List (Int × (Int × Int))) × (List (List (Int × ((Int × ByteArray) × (Int × Int)))) × (Int × (Int × List Int)))))) := c22.f Tryd.prog (T22 n) n (t, c)
noncomputable def f22_6 (n m : Nat) (x6 : Int) (b1002 : (Int × (Int × (Int × (Int × (Int × Int)))))) (b1004a : (Int × (Int × (Int × (Int × (Int × (Int × Int))))))) (b1004bbba : Int) (b1004bbbba : Int) (b1005a : (Int × (Int × (Int × (Int × (Int × (Int × Int))))))) (b1005bbba : Int) (b1005bbbba : Int) (l700401 : List ((Int × ByteArray) × List (Int × (Int × Int)))) (l700402 : List (List (Int × ((Int × ByteArray) × (Int × Int))))) (l700405 : List Int) (l700501 : List ((Int × ByteArray) × List (Int × (Int × Int)))) (l700502 : List (List (Int × ((Int × ByteArray) × (Int × Int))))) (l700505 : List Int) : Option (((Int × (Int × (Int × (Int × (Int × (Int × Int)))))) × (List ((Int × ByteArray) × List (Int × (Int × Int))) × (List (List (Int × ((Int × ByteArray) × (Int × Int)))) × (Int × (Int × List Int)))))) := c22.LL Tryd.prog (T22 n) m 6 ((), (), (), x6) (b1002, (b1004a, ((), ((), (b1004bbba, (b1004bbbba, ()))))), (b1005a, ((), ((), (b1005bbba, (b1005bbbba, ()))))), l700401, l700402, l700405, l700501, l700502, l700505, ())
noncomputable def f22_14 (n m : Nat) (i : Int) (b1002 : (Int × (Int × (Int × (Int × (Int × Int)))))) (b1004a : (Int × (Int × (Int × (Int × (Int × (Int × Int))))))) (b1004bbba : Int) (b1004bbbba : Int) (b1005a : (Int × (Int × (Int × (Int × (Int × (Int × Int))))))) (b1005bbba : Int) (b1005bbbba : Int) (l700401 : List ((Int × ByteArray) × List (Int × (Int × Int)))) (l700402 : List (List (Int × ((Int × ByteArray) × (Int × Int))))) (l700405 : List Int) (l700501 : List ((Int × ByteArray) × List (Int × (Int × Int)))) (l700502 : List (List (Int × ((Int × ByteArray) × (Int × Int))))) (l700505 : List Int) : Option (((Int × (Int × (Int × (Int × (Int × (Int × Int)))))) × (List ((Int × ByteArray) × List (Int × (Int × Int))) × (List (List (Int × ((Int × ByteArray) × (Int × Int)))) × (Int × (Int × List Int)))))) := c22.LL Tryd.prog (T22 n) m 14 ((), (), (), i) (b1002, (b1004a, ((), ((), (b1004bbba, (b1004bbbba, ()))))), (b1005a, ((), ((), (b1005bbba, (b1005bbbba, ()))))), l700401, l700402, l700405, l700501, l700502, l700505, ())
theorem f22_6_zero (n : Nat) (x6 : Int) (b1002 : (Int × (Int × (Int × (Int × (Int × Int)))))) (b1004a : (Int × (Int × (Int × (Int × (Int × (Int × Int))))))) (b1004bbba : Int) (b1004bbbba : Int) (b1005a : (Int × (Int × (Int × (Int × (Int × (Int × Int))))))) (b1005bbba : Int) (b1005bbbba : Int) (l700401 : List ((Int × ByteArray) × List (Int × (Int × Int)))) (l700402 : List (List (Int × ((Int × ByteArray) × (Int × Int))))) (l700405 : List Int) (l700501 : List ((Int × ByteArray) × List (Int × (Int × Int)))) (l700502 : List (List (Int × ((Int × ByteArray) × (Int × Int))))) (l700505 : List Int) : f22_6 n 0 x6 b1002 b1004a b1004bbba b1004bbbba b1005a b1005bbba b1005bbbba l700401 l700402 l700405 l700501 l700502 l700505 = none := rfl
theorem f22_6_eq (n m : Nat) (x6 : Int) (b1002 : (Int × (Int × (Int × (Int × (Int × Int)))))) (b1004a : (Int × (Int × (Int × (Int × (Int × (Int × Int))))))) (b1004bbba : Int) (b1004bbbba : Int) (b1005a : (Int × (Int × (Int × (Int × (Int × (Int × Int))))))) (b1005bbba : Int) (b1005bbbba : Int) (l700401 : List ((Int × ByteArray) × List (Int × (Int × Int)))) (l700402 : List (List (Int × ((Int × ByteArray) × (Int × Int))))) (l700405 : List Int) (l700501 : List ((Int × ByteArray) × List (Int × (Int × Int)))) (l700502 : List (List (Int × ((Int × ByteArray) × (Int × Int))))) (l700505 : List Int) : f22_6 n (m + 1) x6 b1002 b1004a b1004bbba b1004bbbba b1005a b1005bbba b1005bbbba l700401 l700402 l700405 l700501 l700502 l700505 =
  bif decide (x6 < b1002.snd.snd.snd.fst) then
   Go.Rf.both ((f16 n x6).bind fun r1 =>
    bif decide ((l700501.length + [(r1, [((7 : Int), b1002.snd.snd.snd.snd.fst, (0 : Int)), ((3 : Int), (0 : Int), (0 : Int)), ((10 : Int), (0 : Int), (0 : Int))])].length) * (48 : Nat) ≤ Go.Rf.maxBytes) then
     f22_6 n m (Go.IntKind.i64.wrap (x6 + (1 : Int))) b1002 b1004a b1004bbba b1004bbbba b1005a b1005bbba b1005bbbba l700401 l700402 l700405 (l700501 ++ [(r1, [((7 : Int), b1002.snd.snd.snd.snd.fst, (0 : Int)), ((3 : Int), (0 : Int), (0 : Int)), ((10 : Int), (0 : Int), (0 : Int))])]) l700502 l700505
    else
     none)
    ((f16 n x6).bind fun r2 =>
    bif decide ((l700501.length + [(r2, [((7 : Int), b1002.snd.snd.snd.snd.fst, (0 : Int)), ((3 : Int), (0 : Int), (0 : Int)), ((10 : Int), (0 : Int), (0 : Int))])].length) * (48 : Nat) ≤ Go.Rf.maxBytes) then
     f22_6 n m (Go.IntKind.i64.wrap (x6 + (1 : Int))) b1002 b1004a b1004bbba b1004bbbba b1005a b1005bbba b1005bbbba l700401 l700402 l700405 (l700501 ++ [(r2, [((7 : Int), b1002.snd.snd.snd.snd.fst, (0 : Int)), ((3 : Int), (0 : Int), (0 : Int)), ((10 : Int), (0 : Int), (0 : Int))])]) l700502 l700505
    else
     none)
  else
   f22_14 n m (0 : Int) b1002 b1004a b1004bbba b1004bbbba b1005a b1005bbba b1005bbbba l700401 l700402 l700405 l700501 l700502 l700505 := by kernel_rfl
theorem f22_14_zero (n : Nat) (i : Int) (b1002 : (Int × (Int × (Int × (Int × (Int × Int)))))) (b1004a : (Int × (Int × (Int × (Int × (Int × (Int × Int))))))) (b1004bbba : Int) (b1004bbbba : Int) (b1005a : (Int × (Int × (Int × (Int × (Int × (Int × Int))))))) (b1005bbba : Int) (b1005bbbba : Int) (l700401 : List ((Int × ByteArray) × List (Int × (Int × Int)))) (l700402 : List (List (Int × ((Int × ByteArray) × (Int × Int))))) (l700405 : List Int) (l700501 : List ((Int × ByteArray) × List (Int × (Int × Int)))) (l700502 : List (List (Int × ((Int × ByteArray) × (Int × Int))))) (l700505 : List Int) : f22_14 n 0 i b1002 b1004a b1004bbba b1004bbbba b1005a b1005bbba b1005bbbba l700401 l700402 l700405 l700501 l700502 l700505 = none := rfl
theorem f22_14_eq (n m : Nat) (i : Int) (b1002 : (Int × (Int × (Int × (Int × (Int × Int)))))) (b1004a : (Int × (Int × (Int × (Int × (Int × (Int × Int))))))) (b1004bbba : Int) (b1004bbbba : Int) (b1005a : (Int × (Int × (Int × (Int × (Int × (Int × Int))))))) (b1005bbba : Int) (b1005bbbba : Int) (l700401 : List ((Int × ByteArray) × List (Int × (Int × Int)))) (l700402 : List (List (Int × ((Int × ByteArray) × (Int × Int))))) (l700405 : List Int) (l700501 : List ((Int × ByteArray) × List (Int × (Int × Int)))) (l700502 : List (List (Int × ((Int × ByteArray) × (Int × Int))))) (l700505 : List Int) : f22_14 n (m + 1) i b1002 b1004a b1004bbba b1004bbbba b1005a b1005bbba b1005bbbba l700401 l700402 l700405 l700501 l700502 l700505 =
  bif decide (i < b1002.snd.fst) then
   (f35 n b1002 i).bind fun r1 =>
   bif decide ((l700502.length + [r1].length) * (24 : Nat) ≤ Go.Rf.maxBytes) then
    f22_14 n m (Go.IntKind.i64.wrap (i + (1 : Int))) b1002 b1004a b1004bbba b1004bbbba b1005a b1005bbba b1005bbbba l700401 l700402 l700405 l700501 (l700502 ++ [r1]) l700505
   else
    none
  else
   some (b1005a, l700501, l700502, b1005bbba, b1005bbbba, l700505) := by kernel_rfl
theorem f22_eq (n : Nat) (t : (Int × (Int × (Int × (Int × (Int × Int)))))) (c : (Int × (Int × (Int × (Int × (Int × (Int × Int))))))) : f22 n t c =
  f22_6 n n (0 : Int) t (((0 : Int), (0 : Int), (0 : Int), (0 : Int), (0 : Int), (0 : Int), (0 : Int))) (0 : Int) (0 : Int) c (0 : Int) t.snd.snd.snd.snd.snd [] [] [] [] [] [] := by kernel_rfl
/- convoy/convoylaw29.same -/
noncomputable def c21 : Cfg := ⟨21, Tryd.f21, [(.agg (.pair (.agg (.pair (.int .i64) (.pair (.int .i64) (.pair (.int .i64) (.pair (.int .i64) (.pair (.int .i64) (.pair (.int .i64) (.int .i64)))))))) (.pair (.sl 77 (.agg (.pair (.agg (.pair (.int .u16) .str)) (.sl 74 (.agg (.pair (.int .i64) (.pair (.int .i64) (.int .i64)))))))) (.pair (.sl 65 (.sl 67 (.agg (.pair (.int .i64) (.pair (.agg (.pair (.int .u16) .str)) (.pair (.int .i64) (.int .i64))))))) (.pair (.int .i64) (.pair (.int .u64) (.sl 3 (.int .i64)))))))), (.agg (.pair (.agg (.pair (.int .i64) (.pair (.int .i64) (.pair (.int .i64) (.pair (.int .i64) (.pair (.int .i64) (.pair (.int .i64) (.int .i64)))))))) (.pair (.sl 85 (.agg (.pair (.agg (.pair (.int .u16) .str)) (.sl 86 (.agg (.pair (.int .i64) (.pair (.int .i64) (.int .i64)))))))) (.pair (.sl 87 (.sl 89 (.agg (.pair (.int .i64) (.pair (.agg (.pair (.int .u16) .str)) (.pair (.int .i64) (.int .i64))))))) (.pair (.int .i64) (.pair (.int .u64) (.sl 3 (.int .i64))))))))], [.bool], 8, [], [(8, ⟨210, 8, [(2, (.ptr 1002 [])), (3, (.ptr 1003 [])), (5, (.val (.int .i64)))], [(1002, .box (.val (.agg (.pair (.agg (.pair (.int .i64) (.pair (.int .i64) (.pair (.int .i64) (.pair (.int .i64) (.pair (.int .i64) (.pair (.int .i64) (.int .i64)))))))) (.pair (.sl 77 (.agg (.pair (.agg (.pair (.int .u16) .str)) (.sl 74 (.agg (.pair (.int .i64) (.pair (.int .i64) (.int .i64)))))))) (.pair (.sl 65 (.sl 67 (.agg (.pair (.int .i64) (.pair (.agg (.pair (.int .u16) .str)) (.pair (.int .i64) (.int .i64))))))) (.pair (.int .i64) (.pair (.int .u64) (.sl 3 (.int .i64)))))))))), (1003, .box (.val (.agg (.pair (.agg (.pair (.int .i64) (.pair (.int .i64) (.pair (.int .i64) (.pair (.int .i64) (.pair (.int .i64) (.pair (.int .i64) (.int .i64)))))))) (.pair (.sl 85 (.agg (.pair (.agg (.pair (.int .u16) .str)) (.sl 86 (.agg (.pair (.int .i64) (.pair (.int .i64) (.int .i64)))))))) (.pair (.sl 87 (.sl 89 (.agg (.pair (.int .i64) (.pair (.agg (.pair (.int .u16) .str)) (.pair (.int .i64) (.int .i64))))))) (.pair (.int .i64) (.pair (.int .u64) (.sl 3 (.int .i64))))))))))]⟩), (20, ⟨210, 8, [(2, (.ptr 1002 [])), (3, (.ptr 1003 [])), (5, (.val (.int .i64))), (6, (.ptr 1006 [])), (7, (.ptr 1007 [])), (8, (.val (.int .i64))), (56, (.ptr 1002 [1])), (57, (.val (.sl 77 (.agg (.pair (.agg (.pair (.int .u16) .str)) (.sl 74 (.agg (.pair (.int .i64) (.pair (.int .i64) (.int .i64)))))))))), (58, (.val (.int .i64))), (60, (.val (.agg (.pair (.agg (.pair (.int .u16) .str)) (.sl 74 (.agg (.pair (.int .i64) (.pair (.int .i64) (.int .i64))))))))), (61, (.ptr 1003 [1])), (62, (.val (.sl 85 (.agg (.pair (.agg (.pair (.int .u16) .str)) (.sl 86 (.agg (.pair (.int .i64) (.pair (.int .i64) (.int .i64)))))))))), (63, (.val (.int .i64))), (65, (.val (.agg (.pair (.agg (.pair (.int .u16) .str)) (.sl 86 (.agg (.pair (.int .i64) (.pair (.int .i64) (.int .i64))))))))), (73, (.ptr 1006 [1])), (74, (.val (.sl 74 (.agg (.pair (.int .i64) (.pair (.int .i64) (.int .i64))))))), (75, (.val (.int .i64))), (76, (.ptr 1007 [1])), (77, (.val (.sl 86 (.agg (.pair (.int .i64) (.pair (.int .i64) (.int .i64))))))), (78, (.val (.int .i64))), (79, (.val .bool))], [(1002, .box (.val (.agg (.pair (.agg (.pair (.int .i64) (.pair (.int .i64) (.pair (.int .i64) (.pair (.int .i64) (.pair (.int .i64) (.pair (.int .i64) (.int .i64)))))))) (.pair (.sl 77 (.agg (.pair (.agg (.pair (.int .u16) .str)) (.sl 74 (.agg (.pair (.int .i64) (.pair (.int .i64) (.int .i64)))))))) (.pair (.sl 65 (.sl 67 (.agg (.pair (.int .i64) (.pair (.agg (.pair (.int .u16) .str)) (.pair (.int .i64) (.int .i64))))))) (.pair (.int .i64) (.pair (.int .u64) (.sl 3 (.int .i64)))))))))), (1003, .box (.val (.agg (.pair (.agg (.pair (.int .i64) (.pair (.int .i64) (.pair (.int .i64) (.pair (.int .i64) (.pair (.int .i64) (.pair (.int .i64) (.int .i64)))))))) (.pair (.sl 85 (.agg (.pair (.agg (.pair (.int .u16) .str)) (.sl 86 (.agg (.pair (.int .i64) (.pair (.int .i64) (.int .i64)))))))) (.pair (.sl 87 (.sl 89 (.agg (.pair (.int .i64) (.pair (.agg (.pair (.int .u16) .str)) (.pair (.int .i64) (.int .i64))))))) (.pair (.int .i64) (.pair (.int .u64) (.sl 3 (.int .i64)))))))))), (1006, .box (.val (.agg (.pair (.agg (.pair (.int .u16) .str)) (.sl 74 (.agg (.pair (.int .i64) (.pair (.int .i64) (.int .i64))))))))), (1007, .box (.val (.agg (.pair (.agg (.pair (.int .u16) .str)) (.sl 86 (.agg (.pair (.int .i64) (.pair (.int .i64) (.int .i64)))))))))]⟩), (30, ⟨210, 8, [(2, (.ptr 1002 [])), (3, (.ptr 1003 [])), (9, (.val (.int .i64)))], [(1002, .box (.val (.agg (.pair (.agg (.pair (.int .i64) (.pair (.int .i64) (.pair (.int .i64) (.pair (.int .i64) (.pair (.int .i64) (.pair (.int .i64) (.int .i64)))))))) (.pair (.sl 77 (.agg (.pair (.agg (.pair (.int .u16) .str)) (.sl 74 (.agg (.pair (.int .i64) (.pair (.int .i64) (.int .i64)))))))) (.pair (.sl 65 (.sl 67 (.agg (.pair (.int .i64) (.pair (.agg (.pair (.int .u16) .str)) (.pair (.int .i64) (.int .i64))))))) (.pair (.int .i64) (.pair (.int .u64) (.sl 3 (.int .i64)))))))))), (1003, .box (.val (.agg (.pair (.agg (.pair (.int .i64) (.pair (.int .i64) (.pair (.int .i64) (.pair (.int .i64) (.pair (.int .i64) (.pair (.int .i64) (.int .i64)))))))) (.pair (.sl 85 (.agg (.pair (.agg (.pair (.int .u16) .str)) (.sl 86 (.agg (.pair (.int .i64) (.pair (.int .i64) (.int .i64)))))))) (.pair (.sl 87 (.sl 89 (.agg (.pair (.int .i64) (.pair (.agg (.pair (.int .u16) .str)) (.pair (.int .i64) (.int .i64))))))) (.pair (.int .i64) (.pair (.int .u64) (.sl 3 (.int .i64))))))))))]⟩), (42, ⟨210, 8, [(2, (.ptr 1002 [])), (3, (.ptr 1003 [])), (9, (.val (.int .i64))), (10, (.val (.sl 67 (.agg (.pair (.int .i64) (.pair (.agg (.pair (.int .u16) .str)) (.pair (.int .i64) (.int .i64)))))))), (11, (.val (.sl 89 (.agg (.pair (.int .i64) (.pair (.agg (.pair (.int .u16) .str)) (.pair (.int .i64) (.int .i64)))))))), (12, (.val (.int .i64))), (138, (.ptr 1002 [2])), (139, (.val (.sl 65 (.sl 67 (.agg (.pair (.int .i64) (.pair (.agg (.pair (.int .u16) .str)) (.pair (.int .i64) (.int .i64))))))))), (140, (.val (.int .i64))), (142, (.val (.sl 67 (.agg (.pair (.int .i64) (.pair (.agg (.pair (.int .u16) .str)) (.pair (.int .i64) (.int .i64)))))))), (143, (.ptr 1003 [2])), (144, (.val (.sl 87 (.sl 89 (.agg (.pair (.int .i64) (.pair (.agg (.pair (.int .u16) .str)) (.pair (.int .i64) (.int .i64))))))))), (145, (.val (.int .i64))), (147, (.val (.sl 89 (.agg (.pair (.int .i64) (.pair (.agg (.pair (.int .u16) .str)) (.pair (.int .i64) (.int .i64))))))))], [(1002, .box (.val (.agg (.pair (.agg (.pair (.int .i64) (.pair (.int .i64) (.pair (.int .i64) (.pair (.int .i64) (.pair (.int .i64) (.pair (.int .i64) (.int .i64)))))))) (.pair (.sl 77 (.agg (.pair (.agg (.pair (.int .u16) .str)) (.sl 74 (.agg (.pair (.int .i64) (.pair (.int .i64) (.int .i64)))))))) (.pair (.sl 65 (.sl 67 (.agg (.pair (.int .i64) (.pair (.agg (.pair (.int .u16) .str)) (.pair (.int .i64) (.int .i64))))))) (.pair (.int .i64) (.pair (.int .u64) (.sl 3 (.int .i64)))))))))), (1003, .box (.val (.agg (.pair (.agg (.pair (.int .i64) (.pair (.int .i64) (.pair (.int .i64) (.pair (.int .i64) (.pair (.int .i64) (.pair (.int .i64) (.int .i64)))))))) (.pair (.sl 85 (.agg (.pair (.agg (.pair (.int .u16) .str)) (.sl 86 (.agg (.pair (.int .i64) (.pair (.int .i64) (.int .i64)))))))) (.pair (.sl 87 (.sl 89 (.agg (.pair (.int .i64) (.pair (.agg (.pair (.int .u16) .str)) (.pair (.int .i64) (.int .i64))))))) (.pair (.int .i64) (.pair (.int .u64) (.sl 3 (.int .i64))))))))))]⟩)]⟩
noncomputable def T21 (n : Nat) : Tab := ⟨[e14 n], []⟩
noncomputable def e21 (n : Nat) : Entry := c21.entry Tryd.prog (T21 n) n
theorem ok21 {W0 : World} (n : Nat) : FnOK Tryd.prog W0 (e21 n) := c21.sound (.cons (ok14 n) .nil) n Tryd.func21 (by kernel_rfl) (by kernel_rfl)
noncomputable def f21 (n : Nat) (a : ((Int × (Int × (Int × (Int × (Int × (Int × Int)))))) × (List ((Int × ByteArray) × List (Int × (Int × Int))) × (List (List (Int × ((Int × ByteArray) × (Int × Int)))) × (Int × (Int × List Int)))))) (b : ((Int × (Int × (Int × (Int × (Int × (Int × Int)))))) × (List ((Int × ByteArray) × List (Int × (Int × Int))) × (List (List (Int × ((Int × ByteArray) × (Int × Int)))) × (Int × (Int × List Int)))))) : Option (Bool) := c21.f Tryd.prog (T21 n) n (a, b)
noncomputable def f21_8 (n m : Nat) (i : Int) (b1002 : ((Int × (Int × (Int × (Int × (Int × (Int × Int)))))) × (List ((Int × ByteArray) × List (Int × (Int × Int))) × (List (List (Int × ((Int × ByteArray) × (Int × Int)))) × (Int × (Int × List Int)))))) (b1003 : ((Int × (Int × (Int × (Int × (Int × (Int × Int)))))) × (List ((Int × ByteArray) × List (Int × (Int × Int))) × (List (List (Int × ((Int × ByteArray) × (Int × Int)))) × (Int × (Int × List Int)))))) : Option (Bool) := c21.LL Tryd.prog (T21 n) m 8 ((), (), i) (b1002, b1003, ())
noncomputable def f21_20 (n m : Nat) (i : Int) (k : Int) (x57 : List ((Int × ByteArray) × List (Int × (Int × Int)))) (x58 : Int) (x60 : ((Int × ByteArray) × List (Int × (Int × Int)))) (x62 : List ((Int × ByteArray) × List (Int × (Int × Int)))) (x63 : Int) (x65 : ((Int × ByteArray) × List (Int × (Int × Int)))) (x74 : List (Int × (Int × Int))) (x75 : Int) (x77 : List (Int × (Int × Int))) (x78 : Int) (x79 : Bool) (b1002 : ((Int × (Int × (Int × (Int × (Int × (Int × Int)))))) × (List ((Int × ByteArray) × List (Int × (Int × Int))) × (List (List (Int × ((Int × ByteArray) × (Int × Int)))) × (Int × (Int × List Int)))))) (b1003 : ((Int × (Int × (Int × (Int × (Int × (Int × Int)))))) × (List ((Int × ByteArray) × List (Int × (Int × Int))) × (List (List (Int × ((Int × ByteArray) × (Int × Int)))) × (Int × (Int × List Int)))))) (b1006 : ((Int × ByteArray) × List (Int × (Int × Int)))) (b1007 : ((Int × ByteArray) × List (Int × (Int × Int)))) : Option (Bool) := c21.LL Tryd.prog (T21 n) m 20 ((), (), i, (), (), k, (), x57, x58, x60, (), x62, x63, x65, (), x74, x75, (), x77, x78, x79) (b1002, b1003, b1006, b1007, ())
noncomputable def f21_30 (n m : Nat) (i : Int) (b1002 : ((Int × (Int × (Int × (Int × (Int × (Int × Int)))))) × (List ((Int × ByteArray) × List (Int × (Int × Int))) × (List (List (Int × ((Int × ByteArray) × (Int × Int)))) × (Int × (Int × List Int)))))) (b1003 : ((Int × (Int × (Int × (Int × (Int × (Int × Int)))))) × (List ((Int × ByteArray) × List (Int × (Int × Int))) × (List (List (Int × ((Int × ByteArray) × (Int × Int)))) × (Int × (Int × List Int)))))) : Option (Bool) := c21.LL Tryd.prog (T21 n) m 30 ((), (), i) (b1002, b1003, ())
noncomputable def f21_42 (n m : Nat) (i : Int) (x : List (Int × ((Int × ByteArray) × (Int × Int)))) (y : List (Int × ((Int × ByteArray) × (Int × Int)))) (k : Int) (x139 : List (List (Int × ((Int × ByteArray) × (Int × Int))))) (x140 : Int) (x142 : List (Int × ((Int × ByteArray) × (Int × Int)))) (x144 : List (List (Int × ((Int × ByteArray) × (Int × Int))))) (x145 : Int) (x147 : List (Int × ((Int × ByteArray) × (Int × Int)))) (b1002 : ((Int × (Int × (Int × (Int × (Int × (Int × Int)))))) × (List ((Int × ByteArray) × List (Int × (Int × Int))) × (List (List (Int × ((Int × ByteArray) × (Int × Int)))) × (Int × (Int × List Int)))))) (b1003 : ((Int × (Int × (Int × (Int × (Int × (Int × Int)))))) × (List ((Int × ByteArray) × List (Int × (Int × Int))) × (List (List (Int × ((Int × ByteArray) × (Int × Int)))) × (Int × (Int × List Int)))))) : Option (Bool) := c21.LL Tryd.prog (T21 n) m 42 ((), (), i, x, y, k, (), x139, x140, x142, (), x144, x145, x147) (b1002, b1003, ())
theorem f21_8_zero (n : Nat) (i : Int) (b1002 : ((Int × (Int × (Int × (Int × (Int × (Int × Int)))))) × (List ((Int × ByteArray) × List (Int × (Int × Int))) × (List (List (Int × ((Int × ByteArray) × (Int × Int)))) × (Int × (Int × List Int)))))) (b1003 : ((Int × (Int × (Int × (Int × (Int × (Int × Int)))))) × (List ((Int × ByteArray) × List (Int × (Int × Int))) × (List (List (Int × ((Int × ByteArray) × (Int × Int)))) × (Int × (Int × List Int)))))) : f21_8 n 0 i b1002 b1003 = none := rfl
theorem f21_8_eq (n m : Nat) (i : Int) (b1002 : ((Int × (Int × (Int × (Int × (Int × (Int × Int)))))) × (List ((Int × ByteArray) × List (Int × (Int × Int))) × (List (List (Int × ((Int × ByteArray) × (Int × Int)))) × (Int × (Int × List Int)))))) (b1003 : ((Int × (Int × (Int × (Int × (Int × (Int × Int)))))) × (List ((Int × ByteArray) × List (Int × (Int × Int))) × (List (List (Int × ((Int × ByteArray) × (Int × Int)))) × (Int × (Int × List Int)))))) : f21_8 n (m + 1) i b1002 b1003 =
  bif decide (i < ↑(List.length b1002.snd.fst)) then
   bif decide ((0 : Int) ≤ i ∧ i < ↑(List.length b1002.snd.fst)) then
    bif decide ((0 : Int) ≤ i ∧ i < ↑(List.length b1003.snd.fst)) then
     Go.Rf.both ((f14 n (List.getD b1002.snd.fst i.toNat (((0 : Int), ByteArray.empty), [])).fst (List.getD b1003.snd.fst i.toNat (((0 : Int), ByteArray.empty), [])).fst).bind fun r1 =>
      bif !r1 then
       some false
      else
       bif (↑(List.length (List.getD b1002.snd.fst i.toNat (((0 : Int), ByteArray.empty), [])).snd) : Int) != ↑(List.length (List.getD b1003.snd.fst i.toNat (((0 : Int), ByteArray.empty), [])).snd) then
        some false
       else
        f21_20 n m i (0 : Int) b1002.snd.fst i (List.getD b1002.snd.fst i.toNat (((0 : Int), ByteArray.empty), [])) b1003.snd.fst i (List.getD b1003.snd.fst i.toNat (((0 : Int), ByteArray.empty), [])) ((List.getD b1002.snd.fst i.toNat (((0 : Int), ByteArray.empty), [])).snd) (↑(List.length (List.getD b1002.snd.fst i.toNat (((0 : Int), ByteArray.empty), [])).snd)) ((List.getD b1003.snd.fst i.toNat (((0 : Int), ByteArray.empty), [])).snd) (↑(List.length (List.getD b1003.snd.fst i.toNat (((0 : Int), ByteArray.empty), [])).snd)) ((↑(List.length (List.getD b1002.snd.fst i.toNat (((0 : Int), ByteArray.empty), [])).snd) : Int) != ↑(List.length (List.getD b1003.snd.fst i.toNat (((0 : Int), ByteArray.empty), [])).snd)) b1002 b1003 (List.getD b1002.snd.fst i.toNat (((0 : Int), ByteArray.empty), [])) (List.getD b1003.snd.fst i.toNat (((0 : Int), ByteArray.empty), [])))
      ((f14 n (List.getD b1002.snd.fst i.toNat (((0 : Int), ByteArray.empty), [])).fst (List.getD b1003.snd.fst i.toNat (((0 : Int), ByteArray.empty), [])).fst).bind fun r2 =>
      bif !r2 then
       some false
      else
       bif (↑(List.length (List.getD b1002.snd.fst i.toNat (((0 : Int), ByteArray.empty), [])).snd) : Int) != ↑(List.length (List.getD b1003.snd.fst i.toNat (((0 : Int), ByteArray.empty), [])).snd) then
        some false
       else
        f21_20 n m i (0 : Int) b1002.snd.fst i (List.getD b1002.snd.fst i.toNat (((0 : Int), ByteArray.empty), [])) b1003.snd.fst i (List.getD b1003.snd.fst i.toNat (((0 : Int), ByteArray.empty), [])) ((List.getD b1002.snd.fst i.toNat (((0 : Int), ByteArray.empty), [])).snd) (↑(List.length (List.getD b1002.snd.fst i.toNat (((0 : Int), ByteArray.empty), [])).snd)) ((List.getD b1003.snd.fst i.toNat (((0 : Int), ByteArray.empty), [])).snd) (↑(List.length (List.getD b1003.snd.fst i.toNat (((0 : Int), ByteArray.empty), [])).snd)) ((↑(List.length (List.getD b1002.snd.fst i.toNat (((0 : Int), ByteArray.empty), [])).snd) : Int) != ↑(List.length (List.getD b1003.snd.fst i.toNat (((0 : Int), ByteArray.empty), [])).snd)) b1002 b1003 (List.getD b1002.snd.fst i.toNat (((0 : Int), ByteArray.empty), [])) (List.getD b1003.snd.fst i.toNat (((0 : Int), ByteArray.empty), [])))
    else
     none
   else
    none
  else
   f21_30 n m (0 : Int) b1002 b1003 := by kernel_rfl
theorem f21_20_zero (n : Nat) (i : Int) (k : Int) (x57 : List ((Int × ByteArray) × List (Int × (Int × Int)))) (x58 : Int) (x60 : ((Int × ByteArray) × List (Int × (Int × Int)))) (x62 : List ((Int × ByteArray) × List (Int × (Int × Int)))) (x63 : Int) (x65 : ((Int × ByteArray) × List (Int × (Int × Int)))) (x74 : List (Int × (Int × Int))) (x75 : Int) (x77 : List (Int × (Int × Int))) (x78 : Int) (x79 : Bool) (b1002 : ((Int × (Int × (Int × (Int × (Int × (Int × Int)))))) × (List ((Int × ByteArray) × List (Int × (Int × Int))) × (List (List (Int × ((Int × ByteArray) × (Int × Int)))) × (Int × (Int × List Int)))))) (b1003 : ((Int × (Int × (Int × (Int × (Int × (Int × Int)))))) × (List ((Int × ByteArray) × List (Int × (Int × Int))) × (List (List (Int × ((Int × ByteArray) × (Int × Int)))) × (Int × (Int × List Int)))))) (b1006 : ((Int × ByteArray) × List (Int × (Int × Int)))) (b1007 : ((Int × ByteArray) × List (Int × (Int × Int)))) : f21_20 n 0 i k x57 x58 x60 x62 x63 x65 x74 x75 x77 x78 x79 b1002 b1003 b1006 b1007 = none := rfl
theorem f21_20_eq (n m : Nat) (i : Int) (k : Int) (x57 : List ((Int × ByteArray) × List (Int × (Int × Int)))) (x58 : Int) (x60 : ((Int × ByteArray) × List (Int × (Int × Int)))) (x62 : List ((Int × ByteArray) × List (Int × (Int × Int)))) (x63 : Int) (x65 : ((Int × ByteArray) × List (Int × (Int × Int)))) (x74 : List (Int × (Int × Int))) (x75 : Int) (x77 : List (Int × (Int × Int))) (x78 : Int) (x79 : Bool) (b1002 : ((Int × (Int × (Int × (Int × (Int × (Int × Int)))))) × (List ((Int × ByteArray) × List (Int × (Int × Int))) × (List (List (Int × ((Int × ByteArray) × (Int × Int)))) × (Int × (Int × List Int)))))) (b1003 : ((Int × (Int × (Int × (Int × (Int × (Int × Int)))))) × (List ((Int × ByteArray) × List (Int × (Int × Int))) × (List (List (Int × ((Int × ByteArray) × (Int × Int)))) × (Int × (Int × List Int)))))) (b1006 : ((Int × ByteArray) × List (Int × (Int × Int)))) (b1007 : ((Int × ByteArray) × List (Int × (Int × Int)))) : f21_20 n (m + 1) i k x57 x58 x60 x62 x63 x65 x74 x75 x77 x78 x79 b1002 b1003 b1006 b1007 =
  bif decide (k < ↑(List.length b1006.snd)) then
   bif decide ((0 : Int) ≤ k ∧ k < ↑(List.length b1006.snd)) then
    bif decide ((0 : Int) ≤ k ∧ k < ↑(List.length b1007.snd)) then
     bif (List.getD b1006.snd k.toNat ((0 : Int), (0 : Int), (0 : Int))).fst != (List.getD b1007.snd k.toNat ((0 : Int), (0 : Int), (0 : Int))).fst then
      some false
     else
      bif decide ((0 : Int) ≤ k ∧ k < ↑(List.length b1006.snd)) then
       bif decide ((0 : Int) ≤ k ∧ k < ↑(List.length b1007.snd)) then
        bif (List.getD b1006.snd k.toNat ((0 : Int), (0 : Int), (0 : Int))).snd.fst != (List.getD b1007.snd k.toNat ((0 : Int), (0 : Int), (0 : Int))).snd.fst then
         some false
        else
         bif decide ((0 : Int) ≤ k ∧ k < ↑(List.length b1006.snd)) then
          bif decide ((0 : Int) ≤ k ∧ k < ↑(List.length b1007.snd)) then
           bif (List.getD b1006.snd k.toNat ((0 : Int), (0 : Int), (0 : Int))).snd.snd != (List.getD b1007.snd k.toNat ((0 : Int), (0 : Int), (0 : Int))).snd.snd then
            some false
           else
            f21_20 n m i (Go.IntKind.i64.wrap (k + (1 : Int))) x57 x58 x60 x62 x63 x65 x74 x75 x77 x78 x79 b1002 b1003 b1006 b1007
          else
           none
         else
          none
       else
        none
      else
       none
    else
     none
   else
    none
  else
   f21_8 n m (Go.IntKind.i64.wrap (i + (1 : Int))) b1002 b1003 := by kernel_rfl
theorem f21_30_zero (n : Nat) (i : Int) (b1002 : ((Int × (Int × (Int × (Int × (Int × (Int × Int)))))) × (List ((Int × ByteArray) × List (Int × (Int × Int))) × (List (List (Int × ((Int × ByteArray) × (Int × Int)))) × (Int × (Int × List Int)))))) (b1003 : ((Int × (Int × (Int × (Int × (Int × (Int × Int)))))) × (List ((Int × ByteArray) × List (Int × (Int × Int))) × (List (List (Int × ((Int × ByteArray) × (Int × Int)))) × (Int × (Int × List Int)))))) : f21_30 n 0 i b1002 b1003 = none := rfl
theorem f21_30_eq (n m : Nat) (i : Int) (b1002 : ((Int × (Int × (Int × (Int × (Int × (Int × Int)))))) × (List ((Int × ByteArray) × List (Int × (Int × Int))) × (List (List (Int × ((Int × ByteArray) × (Int × Int)))) × (Int × (Int × List Int)))))) (b1003 : ((Int × (Int × (Int × (Int × (Int × (Int × Int)))))) × (List ((Int × ByteArray) × List (Int × (Int × Int))) × (List (List (Int × ((Int × ByteArray) × (Int × Int)))) × (Int × (Int × List Int)))))) : f21_30 n (m + 1) i b1002 b1003 =
  bif decide (i < ↑(List.length b1002.snd.snd.fst)) then
   bif decide ((0 : Int) ≤ i ∧ i < ↑(List.length b1002.snd.snd.fst)) then
    bif decide ((0 : Int) ≤ i ∧ i < ↑(List.length b1003.snd.snd.fst)) then
     bif (↑(List.length (List.getD b1002.snd.snd.fst i.toNat [])) : Int) != ↑(List.length (List.getD b1003.snd.snd.fst i.toNat [])) then
      some false
     else
      f21_42 n m i (List.getD b1002.snd.snd.fst i.toNat []) (List.getD b1003.snd.snd.fst i.toNat []) (0 : Int) b1002.snd.snd.fst i (List.getD b1002.snd.snd.fst i.toNat []) b1003.snd.snd.fst i (List.getD b1003.snd.snd.fst i.toNat []) b1002 b1003
    else
     none
   else
    none
  else
   some true := by kernel_rfl
theorem f21_42_zero (n : Nat) (i : Int) (x : List (Int × ((Int × ByteArray) × (Int × Int)))) (y : List (Int × ((Int × ByteArray) × (Int × Int)))) (k : Int) (x139 : List (List (Int × ((Int × ByteArray) × (Int × Int))))) (x140 : Int) (x142 : List (Int × ((Int × ByteArray) × (Int × Int)))) (x144 : List (List (Int × ((Int × ByteArray) × (Int × Int))))) (x145 : Int) (x147 : List (Int × ((Int × ByteArray) × (Int × Int)))) (b1002 : ((Int × (Int × (Int × (Int × (Int × (Int × Int)))))) × (List ((Int × ByteArray) × List (Int × (Int × Int))) × (List (List (Int × ((Int × ByteArray) × (Int × Int)))) × (Int × (Int × List Int)))))) (b1003 : ((Int × (Int × (Int × (Int × (Int × (Int × Int)))))) × (List ((Int × ByteArray) × List (Int × (Int × Int))) × (List (List (Int × ((Int × ByteArray) × (Int × Int)))) × (Int × (Int × List Int)))))) : f21_42 n 0 i x y k x139 x140 x142 x144 x145 x147 b1002 b1003 = none := rfl
theorem f21_42_eq (n m : Nat) (i : Int) (x : List (Int × ((Int × ByteArray) × (Int × Int)))) (y : List (Int × ((Int × ByteArray) × (Int × Int)))) (k : Int) (x139 : List (List (Int × ((Int × ByteArray) × (Int × Int))))) (x140 : Int) (x142 : List (Int × ((Int × ByteArray) × (Int × Int)))) (x144 : List (List (Int × ((Int × ByteArray) × (Int × Int))))) (x145 : Int) (x147 : List (Int × ((Int × ByteArray) × (Int × Int)))) (b1002 : ((Int × (Int × (Int × (Int × (Int × (Int × Int)))))) × (List ((Int × ByteArray) × List (Int × (Int × Int))) × (List (List (Int × ((Int × ByteArray) × (Int × Int)))) × (Int × (Int × List Int)))))) (b1003 : ((Int × (Int × (Int × (Int × (Int × (Int × Int)))))) × (List ((Int × ByteArray) × List (Int × (Int × Int))) × (List (List (Int × ((Int × ByteArray) × (Int × Int)))) × (Int × (Int × List Int)))))) : f21_42 n (m + 1) i x y k x139 x140 x142 x144 x145 x147 b1002 b1003 =
  bif decide (k < ↑x.length) then
   bif decide ((0 : Int) ≤ k ∧ k < ↑x.length) then
    bif decide ((0 : Int) ≤ k ∧ k < ↑y.length) then
     bif (x.getD k.toNat ((0 : Int), ((0 : Int), ByteArray.empty), (0 : Int), (0 : Int))).fst != (y.getD k.toNat ((0 : Int), ((0 : Int), ByteArray.empty), (0 : Int), (0 : Int))).fst then
      some false
     else
      bif decide ((0 : Int) ≤ k ∧ k < ↑x.length) then
       bif decide ((0 : Int) ≤ k ∧ k < ↑y.length) then
        (f14 n (x.getD k.toNat ((0 : Int), ((0 : Int), ByteArray.empty), (0 : Int), (0 : Int))).snd.fst (y.getD k.toNat ((0 : Int), ((0 : Int), ByteArray.empty), (0 : Int), (0 : Int))).snd.fst).bind fun r1 =>
        bif !r1 then
         some false
        else
         bif decide ((0 : Int) ≤ k ∧ k < ↑x.length) then
          bif decide ((0 : Int) ≤ k ∧ k < ↑y.length) then
           bif (x.getD k.toNat ((0 : Int), ((0 : Int), ByteArray.empty), (0 : Int), (0 : Int))).snd.snd.fst != (y.getD k.toNat ((0 : Int), ((0 : Int), ByteArray.empty), (0 : Int), (0 : Int))).snd.snd.fst then
            some false
           else
            bif decide ((0 : Int) ≤ k ∧ k < ↑x.length) then
             bif decide ((0 : Int) ≤ k ∧ k < ↑y.length) then
              bif (x.getD k.toNat ((0 : Int), ((0 : Int), ByteArray.empty), (0 : Int), (0 : Int))).snd.snd.snd != (y.getD k.toNat ((0 : Int), ((0 : Int), ByteArray.empty), (0 : Int), (0 : Int))).snd.snd.snd then
               some false
              else
               f21_42 n m i x y (Go.IntKind.i64.wrap (k + (1 : Int))) x139 x140 x142 x144 x145 x147 b1002 b1003
             else
              none
            else
             none
          else
           none
         else
          none
       else
        none
      else
       none
    else
     none
   else
    none
  else
   f21_30 n m (Go.IntKind.i64.wrap (i + (1 : Int))) b1002 b1003 := by kernel_rfl
theorem f21_eq (n : Nat) (a : ((Int × (Int × (Int × (Int × (Int × (Int × Int)))))) × (List ((Int × ByteArray) × List (Int × (Int × Int))) × (List (List (Int × ((Int × ByteArray) × (Int × Int)))) × (Int × (Int × List Int)))))) (b : ((Int × (Int × (Int × (Int × (Int × (Int × Int)))))) × (List ((Int × ByteArray) × List (Int × (Int × Int))) × (List (List (Int × ((Int × ByteArray) × (Int × Int)))) × (Int × (Int × List Int)))))) : f21 n a b =
  bif (↑(List.length a.snd.fst) : Int) != ↑(List.length b.snd.fst) then
   some false
  else
   bif (↑(List.length a.snd.snd.fst) : Int) != ↑(List.length b.snd.snd.fst) then
    some false
   else
    bif a.snd.snd.snd.fst != b.snd.snd.snd.fst then
     some false
    else
     bif a.snd.snd.snd.snd.fst != b.snd.snd.snd.snd.fst then
      some false
     else
      bif (↑(List.length a.snd.snd.snd.snd.snd) : Int) != (0 : Int) then
       some false
      else
       f21_8 n n (0 : Int) a b := by kernel_rfl
/- convoy/convoyref10.Check -/
noncomputable def c24 : Cfg := ⟨24, Tryd.f24, [(.agg (.pair (.int .i64) (.pair (.int .i64) (.pair (.int .i64) (.pair (.int .i64) (.pair (.int .i64) (.pair (.int .i64) (.int .i64))))))))], [.bool], 6, [], []⟩
noncomputable def T24 (_ : Nat) : Tab := ⟨[], []⟩
noncomputable def e24 (n : Nat) : Entry := c24.entry Tryd.prog (T24 n) n
theorem ok24 {W0 : World} (n : Nat) : FnOK Tryd.prog W0 (e24 n) := c24.sound .nil n Tryd.func24 (by kernel_rfl) (by kernel_rfl)
noncomputable def f24 (n : Nat) (c : (Int × (Int × (Int × (Int × (Int × (Int × Int))))))) : Option (Bool) := c24.f Tryd.prog (T24 n) n c
theorem f24_eq (n : Nat) (c : (Int × (Int × (Int × (Int × (Int × (Int × Int))))))) : f24 n c =
  bif decide (c.fst ≥ (0 : Int)) then
   bif decide (c.snd.fst ≥ (0 : Int)) then
    bif decide (c.snd.snd.fst ≥ (0 : Int)) then
     bif decide (c.snd.snd.snd.snd.snd.snd ≥ (0 : Int)) then
      bif decide (c.snd.snd.snd.fst ≥ (0 : Int)) then
       bif decide (c.snd.snd.snd.fst ≤ (65536 : Int)) then
        bif decide (c.snd.snd.snd.snd.fst ≥ (1 : Int)) then
         bif decide (c.snd.snd.snd.snd.fst ≤ (4096 : Int)) then
          bif decide (c.snd.snd.snd.snd.snd.fst ≥ (1 : Int)) then
           some (decide (c.snd.snd.snd.snd.snd.fst ≤ (1024 : Int)))
          else
           some false
         else
          some false
        else
         some false
       else
        some false
      else
       some false
     else
      some false
    else
     some false
   else
    some false
  else
   some false := by kernel_rfl
/- convoy/order.New -/
noncomputable def c62o : OCfg := ⟨62, Tryd.f62, ⟨14, 4, [(0, (.val (.int .i64)))], []⟩, [⟨2, 2, [(0, .nilp), (1, (.val (.int .i64)))], []⟩, ⟨2, 2, [(0, (.ptr 1013 [])), (1, (.val (.int .i64)))], [(1011, .map 34 156 (.agg (.pair (.int .u16) .str)) .nilp), (1013, .box (.agg (.pair (.val (.int .i64)) (.pair (.mp 1011) (.pair .nilp .nilp)))))]⟩], [], []⟩
noncomputable def T62o (_ : Nat) : Tab := ⟨[], []⟩
noncomputable def e62o (n : Nat) : OE := c62o.entry Tryd.prog (T62o n) n
theorem ok62o {W0 : World} (n : Nat) : OOK Tryd.prog W0 (e62o n) := c62o.sound .nil n Tryd.func62 (by kernel_rfl) (by kernel_rfl)
noncomputable def f62o (n : Nat) (most : Int) : Option ((((Unit × Int) × Unit) ⊕ ((Unit × Int) × (List ((Int × ByteArray) × Unit) × ((Int × (Unit × (Unit × Unit))) × Unit))))) := c62o.f Tryd.prog (T62o n) n most ()
theorem f62o_eq (n : Nat) (most : Int) : f62o n most =
  bif decide (most < (0 : Int)) then
   some (Sum.inl (((), (1 : Int)), ()))
  else
   bif decide (most > (65536 : Int)) then
    some (Sum.inl (((), (1 : Int)), ()))
   else
    some (Sum.inr ((((), (0 : Int)), ([], (most, ((), ((), ()))), ())))) := by kernel_rfl
/- convoy/queue.NewTurns -/
noncomputable def c57o : OCfg := ⟨57, Tryd.f57, ⟨5, 3, [], []⟩, [⟨1, 2, [(0, (.ptr 1004 []))], [(1001, .map 3 3 (.int .i64) (.int .i64)), (1002, .map 3 3 (.int .i64) (.int .i64)), (1004, .box (.agg (.pair (.mp 1001) (.pair (.mp 1002) (.val (.pair (.int .i64) (.int .i64)))))))]⟩], [], []⟩
noncomputable def T57o (_ : Nat) : Tab := ⟨[], []⟩
noncomputable def e57o (n : Nat) : OE := c57o.entry Tryd.prog (T57o n) n
theorem ok57o {W0 : World} (n : Nat) : OOK Tryd.prog W0 (e57o n) := c57o.sound .nil n Tryd.func57 (by kernel_rfl) (by kernel_rfl)
noncomputable def f57o (n : Nat) : Option ((Unit × (List (Int × Int) × (List (Int × Int) × ((Unit × (Unit × (Int × Int))) × Unit))))) := c57o.f Tryd.prog (T57o n) n () ()
theorem f57o_eq (n : Nat) : f57o n =
  some (((), ([], [], ((), ((), ((0 : Int), (0 : Int)))), ()))) := by kernel_rfl
/- convoy/leave.New -/
noncomputable def c52o : OCfg := ⟨52, Tryd.f52, ⟨4, 2, [], []⟩, [⟨1, 2, [(0, (.ptr 1003 []))], [(1001, .map 3 4 (.int .i64) .bool), (1003, .box (.agg (.pair (.rs 200001) (.mp 1001)))), (200001, .row 195 (.agg (.pair (.int .i64) (.pair (.int .i64) (.int .i64)))))]⟩], [], []⟩
noncomputable def T52o (_ : Nat) : Tab := ⟨[], []⟩
noncomputable def e52o (n : Nat) : OE := c52o.entry Tryd.prog (T52o n) n
theorem ok52o {W0 : World} (n : Nat) : OOK Tryd.prog W0 (e52o n) := c52o.sound .nil n Tryd.func52 (by kernel_rfl) (by kernel_rfl)
noncomputable def f52o (n : Nat) : Option ((Unit × (List (Int × Bool) × ((Unit × Unit) × (List (Int × (Int × Int)) × Unit))))) := c52o.f Tryd.prog (T52o n) n () ()
theorem f52o_eq (n : Nat) : f52o n =
  some (((), ([], ((), ()), [], ()))) := by kernel_rfl
/- convoy/batch.New -/
noncomputable def c51o : OCfg := ⟨51, Tryd.f51, ⟨20, 5, [(0, (.val (.int .i64))), (1, (.val (.int .i64)))], []⟩, [⟨2, 2, [(0, .nilp), (1, (.val (.int .i64)))], []⟩, ⟨2, 2, [(0, (.ptr 1019 [])), (1, (.val (.int .i64)))], [(1019, .box (.agg (.pair (.val (.int .i64)) (.pair (.val (.int .i64)) (.pair (.rs 701902) (.val (.pair (.int .i64) (.pair (.int .i64) (.pair (.int .i64) (.int .i64)))))))))), (701902, .row 65 (.sl 67 (.agg (.pair (.int .i64) (.pair (.agg (.pair (.int .u16) .str)) (.pair (.int .i64) (.int .i64)))))))]⟩], [], []⟩
noncomputable def T51o (_ : Nat) : Tab := ⟨[], []⟩
noncomputable def e51o (n : Nat) : OE := c51o.entry Tryd.prog (T51o n) n
theorem ok51o {W0 : World} (n : Nat) : OOK Tryd.prog W0 (e51o n) := c51o.sound .nil n Tryd.func51 (by kernel_rfl) (by kernel_rfl)
noncomputable def f51o (n : Nat) (count : Int) (window : Int) : Option ((((Unit × Int) × Unit) ⊕ ((Unit × Int) × ((Int × (Int × (Unit × (Int × (Int × (Int × Int)))))) × (List (List (Int × ((Int × ByteArray) × (Int × Int)))) × Unit))))) := c51o.f Tryd.prog (T51o n) n (count, window) ()
theorem f51o_eq (n : Nat) (count : Int) (window : Int) : f51o n count window =
  bif decide (count < (1 : Int)) then
   some (Sum.inl (((), (1 : Int)), ()))
  else
   bif decide (count > (1024 : Int)) then
    some (Sum.inl (((), (1 : Int)), ()))
   else
    bif decide (window < (0 : Int)) then
     some (Sum.inl (((), (1 : Int)), ()))
    else
     some (Sum.inr ((((), (0 : Int)), ((count, (window, ((), ((0 : Int), (0 : Int), (0 : Int), (0 : Int))))), [], ())))) := by kernel_rfl
/- convoy/table.New -/
noncomputable def c50o : OCfg := ⟨50, Tryd.f50, ⟨16, 4, [(0, (.val (.int .i64)))], []⟩, [⟨2, 2, [(0, .nilp), (1, (.val (.int .i64)))], []⟩, ⟨2, 2, [(0, (.ptr 1015 [])), (1, (.val (.int .i64)))], [(1011, .map 3 193 (.int .i64) .nilp), (1012, .map 34 3 (.agg (.pair (.int .u16) .str)) (.int .i64)), (1013, .map 34 3 (.agg (.pair (.int .u16) .str)) (.int .i64)), (1015, .box (.agg (.pair (.val (.int .i64)) (.pair (.val (.int .i64)) (.pair (.mp 1011) (.pair (.mp 1012) (.mp 1013)))))))]⟩], [], []⟩
noncomputable def T50o (_ : Nat) : Tab := ⟨[], []⟩
noncomputable def e50o (n : Nat) : OE := c50o.entry Tryd.prog (T50o n) n
theorem ok50o {W0 : World} (n : Nat) : OOK Tryd.prog W0 (e50o n) := c50o.sound .nil n Tryd.func50 (by kernel_rfl) (by kernel_rfl)
noncomputable def f50o (n : Nat) (flight : Int) : Option ((((Unit × Int) × Unit) ⊕ ((Unit × Int) × (List (Int × Unit) × (List ((Int × ByteArray) × Int) × (List ((Int × ByteArray) × Int) × ((Int × (Int × (Unit × (Unit × Unit)))) × Unit))))))) := c50o.f Tryd.prog (T50o n) n flight ()
theorem f50o_eq (n : Nat) (flight : Int) : f50o n flight =
  bif decide (flight < (1 : Int)) then
   some (Sum.inl (((), (1 : Int)), ()))
  else
   bif decide (flight > (4096 : Int)) then
    some (Sum.inl (((), (1 : Int)), ()))
   else
    some (Sum.inr ((((), (0 : Int)), ([], [], [], (flight, ((0 : Int), ((), ((), ())))), ())))) := by kernel_rfl
/- convoy/memo.Check -/
noncomputable def c61 : Cfg := ⟨61, Tryd.f61, [(.agg (.pair (.int .i64) (.pair (.int .i64) (.pair (.int .i64) (.pair (.int .i64) (.pair (.int .i64) (.pair (.int .i64) (.int .i64))))))))], [(.int .i64)], 6, [], []⟩
noncomputable def T61 (_ : Nat) : Tab := ⟨[], []⟩
noncomputable def e61 (n : Nat) : Entry := c61.entry Tryd.prog (T61 n) n
theorem ok61 {W0 : World} (n : Nat) : FnOK Tryd.prog W0 (e61 n) := c61.sound .nil n Tryd.func61 (by kernel_rfl) (by kernel_rfl)
noncomputable def f61 (n : Nat) (c : (Int × (Int × (Int × (Int × (Int × (Int × Int))))))) : Option (Int) := c61.f Tryd.prog (T61 n) n c
theorem f61_eq (n : Nat) (c : (Int × (Int × (Int × (Int × (Int × (Int × Int))))))) : f61 n c =
  bif decide (c.fst ≥ (0 : Int)) then
   bif decide (c.snd.fst ≥ (0 : Int)) then
    bif decide (c.snd.snd.fst ≥ (0 : Int)) then
     bif decide (c.snd.snd.snd.snd.snd.snd ≥ (0 : Int)) then
      bif decide (c.snd.snd.snd.fst ≥ (0 : Int)) then
       bif decide (c.snd.snd.snd.fst ≤ (65536 : Int)) then
        bif decide (c.snd.snd.snd.snd.fst ≥ (1 : Int)) then
         bif decide (c.snd.snd.snd.snd.fst ≤ (4096 : Int)) then
          bif decide (c.snd.snd.snd.snd.snd.fst ≥ (1 : Int)) then
           bif !decide (c.snd.snd.snd.snd.snd.fst ≤ (1024 : Int)) then
            some (100 : Int)
           else
            some (0 : Int)
          else
           some (100 : Int)
         else
          some (100 : Int)
        else
         some (100 : Int)
       else
        some (100 : Int)
      else
       some (100 : Int)
     else
      some (100 : Int)
    else
     some (100 : Int)
   else
    some (100 : Int)
  else
   some (100 : Int) := by kernel_rfl
/- convoy/memo.New -/
noncomputable def c49o : OCfg := ⟨49, Tryd.f49, ⟨23, 5, [(0, (.val (.agg (.pair (.int .i64) (.pair (.int .i64) (.pair (.int .i64) (.pair (.int .i64) (.pair (.int .i64) (.pair (.int .i64) (.int .i64))))))))))], []⟩, [⟨2, 2, [(0, .nilp), (1, (.val (.int .i64)))], []⟩, ⟨2, 2, [(0, (.ptr 1022 [])), (1, (.val (.int .i64)))], [(1019, .map 34 192 (.agg (.pair (.int .u16) .str)) (.agg (.pair (.agg (.pair (.int .u16) .str)) (.pair (.agg (.pair (.int .i64) (.agg (.pair (.int .i64) (.pair (.int .i64) (.int .i64)))))) (.int .i64))))), (1022, .box (.agg (.pair (.val (.agg (.pair (.int .i64) (.pair (.int .i64) (.pair (.int .i64) (.pair (.int .i64) (.pair (.int .i64) (.pair (.int .i64) (.int .i64))))))))) (.pair (.mp 1019) (.pair .nilp (.val (.int .i64)))))))]⟩, ⟨2, 2, [(0, (.ptr 1022 [])), (1, (.val (.int .i64)))], [(1019, .map 34 192 (.agg (.pair (.int .u16) .str)) (.agg (.pair (.agg (.pair (.int .u16) .str)) (.pair (.agg (.pair (.int .i64) (.agg (.pair (.int .i64) (.pair (.int .i64) (.int .i64)))))) (.int .i64))))), (1022, .box (.agg (.pair (.val (.agg (.pair (.int .i64) (.pair (.int .i64) (.pair (.int .i64) (.pair (.int .i64) (.pair (.int .i64) (.pair (.int .i64) (.int .i64))))))))) (.pair (.mp 1019) (.pair (.ptr 2015 []) (.val (.int .i64))))))), (2013, .map 34 156 (.agg (.pair (.int .u16) .str)) .nilp), (2015, .box (.agg (.pair (.val (.int .i64)) (.pair (.mp 2013) (.pair .nilp .nilp)))))]⟩], [], []⟩
noncomputable def T49o (n : Nat) : Tab := ⟨[e61 n], [e62o n]⟩
noncomputable def e49o (n : Nat) : OE := c49o.entry Tryd.prog (T49o n) n
theorem ok49o {W0 : World} (n : Nat) : OOK Tryd.prog W0 (e49o n) := c49o.sound (.cons (ok61 n) (.ocons (ok62o n) .nil)) n Tryd.func49 (by kernel_rfl) (by kernel_rfl)
noncomputable def f49o (n : Nat) (c : (Int × (Int × (Int × (Int × (Int × (Int × Int))))))) : Option ((((Unit × Int) × Unit) ⊕ (((Unit × Int) × (List ((Int × ByteArray) × ((Int × ByteArray) × ((Int × (Int × (Int × Int))) × Int))) × (((Int × (Int × (Int × (Int × (Int × (Int × Int)))))) × (Unit × (Unit × Int))) × Unit))) ⊕ ((Unit × Int) × (List ((Int × ByteArray) × ((Int × ByteArray) × ((Int × (Int × (Int × Int))) × Int))) × (((Int × (Int × (Int × (Int × (Int × (Int × Int)))))) × (Unit × (Unit × Int))) × (List ((Int × ByteArray) × Unit) × ((Int × (Unit × (Unit × Unit))) × Unit)))))))) := c49o.f Tryd.prog (T49o n) n c ()
theorem f49o_eq (n : Nat) (c : (Int × (Int × (Int × (Int × (Int × (Int × Int))))))) : f49o n c =
  (f61 n c).bind fun r1 =>
  bif r1 != (0 : Int) then
   some (Sum.inl (((), r1), ()))
  else
   (f62o n c.snd.snd.snd.fst).bind fun r2 =>
   Sum.elim (fun p3 =>
    some (Sum.inr (Sum.inl (((), (0 : Int)), ([], (c, ((), ((), (0 : Int)))), ()))))) (fun p3 =>
    some (Sum.inr (Sum.inr ((((), (0 : Int)), ([], (c, ((), ((), (0 : Int)))), p3.snd.fst, (p3.snd.snd.fst.fst, ((), ((), ()))), ())))))) r2 := by kernel_rfl
/- convoy/group.New -/
noncomputable def c36o : OCfg := ⟨36, Tryd.f36, ⟨39, 6, [(0, (.val (.agg (.pair (.int .i64) (.pair (.int .i64) (.pair (.int .i64) (.pair (.int .i64) (.pair (.int .i64) (.pair (.int .i64) (.int .i64))))))))))], []⟩, [⟨2, 2, [(0, .nilp), (1, (.val (.int .i64)))], []⟩, ⟨2, 2, [(0, (.ptr 1038 [])), (1, (.val (.int .i64)))], [(1036, .map 3 4 (.int .i64) .bool), (1038, .box (.agg (.pair .nilp (.pair .nilp (.pair .nilp (.pair (.ptr 2005 []) (.pair (.mp 1036) (.val (.int .i64))))))))), (2003, .map 3 4 (.int .i64) .bool), (2005, .box (.agg (.pair (.rs 201003) (.mp 2003)))), (201003, .row 195 (.agg (.pair (.int .i64) (.pair (.int .i64) (.int .i64)))))]⟩, ⟨2, 2, [(0, (.ptr 1038 [])), (1, (.val (.int .i64)))], [(1036, .map 3 4 (.int .i64) .bool), (1038, .box (.agg (.pair .nilp (.pair .nilp (.pair (.ptr 2021 []) (.pair (.ptr 703908 []) (.pair (.mp 1036) (.val (.int .i64))))))))), (2021, .box (.agg (.pair (.val (.int .i64)) (.pair (.val (.int .i64)) (.pair (.rs 702904) (.val (.pair (.int .i64) (.pair (.int .i64) (.pair (.int .i64) (.int .i64)))))))))), (702904, .row 65 (.sl 67 (.agg (.pair (.int .i64) (.pair (.agg (.pair (.int .u16) .str)) (.pair (.int .i64) (.int .i64))))))), (703906, .map 3 4 (.int .i64) .bool), (703908, .box (.agg (.pair (.rs 902906) (.mp 703906)))), (902906, .row 195 (.agg (.pair (.int .i64) (.pair (.int .i64) (.int .i64)))))]⟩, ⟨2, 2, [(0, (.ptr 1038 [])), (1, (.val (.int .i64)))], [(1036, .map 3 4 (.int .i64) .bool), (1038, .box (.agg (.pair .nilp (.pair (.ptr 2017 []) (.pair .nilp (.pair (.ptr 3021 []) (.pair (.mp 1036) (.val (.int .i64))))))))), (2013, .map 3 193 (.int .i64) .nilp), (2014, .map 34 3 (.agg (.pair (.int .u16) .str)) (.int .i64)), (2015, .map 34 3 (.agg (.pair (.int .u16) .str)) (.int .i64)), (2017, .box (.agg (.pair (.val (.int .i64)) (.pair (.val (.int .i64)) (.pair (.mp 2013) (.pair (.mp 2014) (.mp 2015))))))), (3019, .map 3 4 (.int .i64) .bool), (3021, .box (.agg (.pair (.rs 202019) (.mp 3019)))), (202019, .row 195 (.agg (.pair (.int .i64) (.pair (.int .i64) (.int .i64)))))]⟩, ⟨2, 2, [(0, (.ptr 1038 [])), (1, (.val (.int .i64)))], [(1036, .map 3 4 (.int .i64) .bool), (1038, .box (.agg (.pair .nilp (.pair (.ptr 2017 []) (.pair (.ptr 3037 []) (.pair (.ptr 704924 []) (.pair (.mp 1036) (.val (.int .i64))))))))), (2013, .map 3 193 (.int .i64) .nilp), (2014, .map 34 3 (.agg (.pair (.int .u16) .str)) (.int .i64)), (2015, .map 34 3 (.agg (.pair (.int .u16) .str)) (.int .i64)), (2017, .box (.agg (.pair (.val (.int .i64)) (.pair (.val (.int .i64)) (.pair (.mp 2013) (.pair (.mp 2014) (.mp 2015))))))), (3037, .box (.agg (.pair (.val (.int .i64)) (.pair (.val (.int .i64)) (.pair (.rs 703920) (.val (.pair (.int .i64) (.pair (.int .i64) (.pair (.int .i64) (.int .i64)))))))))), (703920, .row 65 (.sl 67 (.agg (.pair (.int .i64) (.pair (.agg (.pair (.int .u16) .str)) (.pair (.int .i64) (.int .i64))))))), (704922, .map 3 4 (.int .i64) .bool), (704924, .box (.agg (.pair (.rs 903922) (.mp 704922)))), (903922, .row 195 (.agg (.pair (.int .i64) (.pair (.int .i64) (.int .i64)))))]⟩, ⟨2, 2, [(0, (.ptr 1038 [])), (1, (.val (.int .i64)))], [(1036, .map 3 4 (.int .i64) .bool), (1038, .box (.agg (.pair (.ptr 2024 []) (.pair .nilp (.pair .nilp (.pair (.ptr 3028 []) (.pair (.mp 1036) (.val (.int .i64))))))))), (2021, .map 34 192 (.agg (.pair (.int .u16) .str)) (.agg (.pair (.agg (.pair (.int .u16) .str)) (.pair (.agg (.pair (.int .i64) (.agg (.pair (.int .i64) (.pair (.int .i64) (.int .i64)))))) (.int .i64))))), (2024, .box (.agg (.pair (.val (.agg (.pair (.int .i64) (.pair (.int .i64) (.pair (.int .i64) (.pair (.int .i64) (.pair (.int .i64) (.pair (.int .i64) (.int .i64))))))))) (.pair (.mp 2021) (.pair .nilp (.val (.int .i64))))))), (3026, .map 3 4 (.int .i64) .bool), (3028, .box (.agg (.pair (.rs 202026) (.mp 3026)))), (202026, .row 195 (.agg (.pair (.int .i64) (.pair (.int .i64) (.int .i64)))))]⟩, ⟨2, 2, [(0, (.ptr 1038 [])), (1, (.val (.int .i64)))], [(1036, .map 3 4 (.int .i64) .bool), (1038, .box (.agg (.pair (.ptr 2024 []) (.pair .nilp (.pair (.ptr 3044 []) (.pair (.ptr 704931 []) (.pair (.mp 1036) (.val (.int .i64))))))))), (2021, .map 34 192 (.agg (.pair (.int .u16) .str)) (.agg (.pair (.agg (.pair (.int .u16) .str)) (.pair (.agg (.pair (.int .i64) (.agg (.pair (.int .i64) (.pair (.int .i64) (.int .i64)))))) (.int .i64))))), (2024, .box (.agg (.pair (.val (.agg (.pair (.int .i64) (.pair (.int .i64) (.pair (.int .i64) (.pair (.int .i64) (.pair (.int .i64) (.pair (.int .i64) (.int .i64))))))))) (.pair (.mp 2021) (.pair .nilp (.val (.int .i64))))))), (3044, .box (.agg (.pair (.val (.int .i64)) (.pair (.val (.int .i64)) (.pair (.rs 703927) (.val (.pair (.int .i64) (.pair (.int .i64) (.pair (.int .i64) (.int .i64)))))))))), (703927, .row 65 (.sl 67 (.agg (.pair (.int .i64) (.pair (.agg (.pair (.int .u16) .str)) (.pair (.int .i64) (.int .i64))))))), (704929, .map 3 4 (.int .i64) .bool), (704931, .box (.agg (.pair (.rs 903929) (.mp 704929)))), (903929, .row 195 (.agg (.pair (.int .i64) (.pair (.int .i64) (.int .i64)))))]⟩, ⟨2, 2, [(0, (.ptr 1038 [])), (1, (.val (.int .i64)))], [(1036, .map 3 4 (.int .i64) .bool), (1038, .box (.agg (.pair (.ptr 2024 []) (.pair (.ptr 3040 []) (.pair .nilp (.pair (.ptr 4044 []) (.pair (.mp 1036) (.val (.int .i64))))))))), (2021, .map 34 192 (.agg (.pair (.int .u16) .str)) (.agg (.pair (.agg (.pair (.int .u16) .str)) (.pair (.agg (.pair (.int .i64) (.agg (.pair (.int .i64) (.pair (.int .i64) (.int .i64)))))) (.int .i64))))), (2024, .box (.agg (.pair (.val (.agg (.pair (.int .i64) (.pair (.int .i64) (.pair (.int .i64) (.pair (.int .i64) (.pair (.int .i64) (.pair (.int .i64) (.int .i64))))))))) (.pair (.mp 2021) (.pair .nilp (.val (.int .i64))))))), (3036, .map 3 193 (.int .i64) .nilp), (3037, .map 34 3 (.agg (.pair (.int .u16) .str)) (.int .i64)), (3038, .map 34 3 (.agg (.pair (.int .u16) .str)) (.int .i64)), (3040, .box (.agg (.pair (.val (.int .i64)) (.pair (.val (.int .i64)) (.pair (.mp 3036) (.pair (.mp 3037) (.mp 3038))))))), (4042, .map 3 4 (.int .i64) .bool), (4044, .box (.agg (.pair (.rs 203042) (.mp 4042)))), (203042, .row 195 (.agg (.pair (.int .i64) (.pair (.int .i64) (.int .i64)))))]⟩, ⟨2, 2, [(0, (.ptr 1038 [])), (1, (.val (.int .i64)))], [(1036, .map 3 4 (.int .i64) .bool), (1038, .box (.agg (.pair (.ptr 2024 []) (.pair (.ptr 3040 []) (.pair (.ptr 4060 []) (.pair (.ptr 705947 []) (.pair (.mp 1036) (.val (.int .i64))))))))), (2021, .map 34 192 (.agg (.pair (.int .u16) .str)) (.agg (.pair (.agg (.pair (.int .u16) .str)) (.pair (.agg (.pair (.int .i64) (.agg (.pair (.int .i64) (.pair (.int .i64) (.int .i64)))))) (.int .i64))))), (2024, .box (.agg (.pair (.val (.agg (.pair (.int .i64) (.pair (.int .i64) (.pair (.int .i64) (.pair (.int .i64) (.pair (.int .i64) (.pair (.int .i64) (.int .i64))))))))) (.pair (.mp 2021) (.pair .nilp (.val (.int .i64))))))), (3036, .map 3 193 (.int .i64) .nilp), (3037, .map 34 3 (.agg (.pair (.int .u16) .str)) (.int .i64)), (3038, .map 34 3 (.agg (.pair (.int .u16) .str)) (.int .i64)), (3040, .box (.agg (.pair (.val (.int .i64)) (.pair (.val (.int .i64)) (.pair (.mp 3036) (.pair (.mp 3037) (.mp 3038))))))), (4060, .box (.agg (.pair (.val (.int .i64)) (.pair (.val (.int .i64)) (.pair (.rs 704943) (.val (.pair (.int .i64) (.pair (.int .i64) (.pair (.int .i64) (.int .i64)))))))))), (704943, .row 65 (.sl 67 (.agg (.pair (.int .i64) (.pair (.agg (.pair (.int .u16) .str)) (.pair (.int .i64) (.int .i64))))))), (705945, .map 3 4 (.int .i64) .bool), (705947, .box (.agg (.pair (.rs 904945) (.mp 705945)))), (904945, .row 195 (.agg (.pair (.int .i64) (.pair (.int .i64) (.int .i64)))))]⟩, ⟨2, 2, [(0, (.ptr 1038 [])), (1, (.val (.int .i64)))], [(1036, .map 3 4 (.int .i64) .bool), (1038, .box (.agg (.pair (.ptr 2024 []) (.pair .nilp (.pair .nilp (.pair (.ptr 4021 []) (.pair (.mp 1036) (.val (.int .i64))))))))), (2021, .map 34 192 (.agg (.pair (.int .u16) .str)) (.agg (.pair (.agg (.pair (.int .u16) .str)) (.pair (.agg (.pair (.int .i64) (.agg (.pair (.int .i64) (.pair (.int .i64) (.int .i64)))))) (.int .i64))))), (2024, .box (.agg (.pair (.val (.agg (.pair (.int .i64) (.pair (.int .i64) (.pair (.int .i64) (.pair (.int .i64) (.pair (.int .i64) (.pair (.int .i64) (.int .i64))))))))) (.pair (.mp 2021) (.pair (.ptr 3017 []) (.val (.int .i64))))))), (3015, .map 34 156 (.agg (.pair (.int .u16) .str)) .nilp), (3017, .box (.agg (.pair (.val (.int .i64)) (.pair (.mp 3015) (.pair .nilp .nilp))))), (4019, .map 3 4 (.int .i64) .bool), (4021, .box (.agg (.pair (.rs 203019) (.mp 4019)))), (203019, .row 195 (.agg (.pair (.int .i64) (.pair (.int .i64) (.int .i64)))))]⟩, ⟨2, 2, [(0, (.ptr 1038 [])), (1, (.val (.int .i64)))], [(1036, .map 3 4 (.int .i64) .bool), (1038, .box (.agg (.pair (.ptr 2024 []) (.pair .nilp (.pair (.ptr 4037 []) (.pair (.ptr 705924 []) (.pair (.mp 1036) (.val (.int .i64))))))))), (2021, .map 34 192 (.agg (.pair (.int .u16) .str)) (.agg (.pair (.agg (.pair (.int .u16) .str)) (.pair (.agg (.pair (.int .i64) (.agg (.pair (.int .i64) (.pair (.int .i64) (.int .i64)))))) (.int .i64))))), (2024, .box (.agg (.pair (.val (.agg (.pair (.int .i64) (.pair (.int .i64) (.pair (.int .i64) (.pair (.int .i64) (.pair (.int .i64) (.pair (.int .i64) (.int .i64))))))))) (.pair (.mp 2021) (.pair (.ptr 3017 []) (.val (.int .i64))))))), (3015, .map 34 156 (.agg (.pair (.int .u16) .str)) .nilp), (3017, .box (.agg (.pair (.val (.int .i64)) (.pair (.mp 3015) (.pair .nilp .nilp))))), (4037, .box (.agg (.pair (.val (.int .i64)) (.pair (.val (.int .i64)) (.pair (.rs 704920) (.val (.pair (.int .i64) (.pair (.int .i64) (.pair (.int .i64) (.int .i64)))))))))), (704920, .row 65 (.sl 67 (.agg (.pair (.int .i64) (.pair (.agg (.pair (.int .u16) .str)) (.pair (.int .i64) (.int .i64))))))), (705922, .map 3 4 (.int .i64) .bool), (705924, .box (.agg (.pair (.rs 904922) (.mp 705922)))), (904922, .row 195 (.agg (.pair (.int .i64) (.pair (.int .i64) (.int .i64)))))]⟩, ⟨2, 2, [(0, (.ptr 1038 [])), (1, (.val (.int .i64)))], [(1036, .map 3 4 (.int .i64) .bool), (1038, .box (.agg (.pair (.ptr 2024 []) (.pair (.ptr 4033 []) (.pair .nilp (.pair (.ptr 5037 []) (.pair (.mp 1036) (.val (.int .i64))))))))), (2021, .map 34 192 (.agg (.pair (.int .u16) .str)) (.agg (.pair (.agg (.pair (.int .u16) .str)) (.pair (.agg (.pair (.int .i64) (.agg (.pair (.int .i64) (.pair (.int .i64) (.int .i64)))))) (.int .i64))))), (2024, .box (.agg (.pair (.val (.agg (.pair (.int .i64) (.pair (.int .i64) (.pair (.int .i64) (.pair (.int .i64) (.pair (.int .i64) (.pair (.int .i64) (.int .i64))))))))) (.pair (.mp 2021) (.pair (.ptr 3017 []) (.val (.int .i64))))))), (3015, .map 34 156 (.agg (.pair (.int .u16) .str)) .nilp), (3017, .box (.agg (.pair (.val (.int .i64)) (.pair (.mp 3015) (.pair .nilp .nilp))))), (4029, .map 3 193 (.int .i64) .nilp), (4030, .map 34 3 (.agg (.pair (.int .u16) .str)) (.int .i64)), (4031, .map 34 3 (.agg (.pair (.int .u16) .str)) (.int .i64)), (4033, .box (.agg (.pair (.val (.int .i64)) (.pair (.val (.int .i64)) (.pair (.mp 4029) (.pair (.mp 4030) (.mp 4031))))))), (5035, .map 3 4 (.int .i64) .bool), (5037, .box (.agg (.pair (.rs 204035) (.mp 5035)))), (204035, .row 195 (.agg (.pair (.int .i64) (.pair (.int .i64) (.int .i64)))))]⟩, ⟨2, 2, [(0, (.ptr 1038 [])), (1, (.val (.int .i64)))], [(1036, .map 3 4 (.int .i64) .bool), (1038, .box (.agg (.pair (.ptr 2024 []) (.pair (.ptr 4033 []) (.pair (.ptr 5053 []) (.pair (.ptr 706940 []) (.pair (.mp 1036) (.val (.int .i64))))))))), (2021, .map 34 192 (.agg (.pair (.int .u16) .str)) (.agg (.pair (.agg (.pair (.int .u16) .str)) (.pair (.agg (.pair (.int .i64) (.agg (.pair (.int .i64) (.pair (.int .i64) (.int .i64)))))) (.int .i64))))), (2024, .box (.agg (.pair (.val (.agg (.pair (.int .i64) (.pair (.int .i64) (.pair (.int .i64) (.pair (.int .i64) (.pair (.int .i64) (.pair (.int .i64) (.int .i64))))))))) (.pair (.mp 2021) (.pair (.ptr 3017 []) (.val (.int .i64))))))), (3015, .map 34 156 (.agg (.pair (.int .u16) .str)) .nilp), (3017, .box (.agg (.pair (.val (.int .i64)) (.pair (.mp 3015) (.pair .nilp .nilp))))), (4029, .map 3 193 (.int .i64) .nilp), (4030, .map 34 3 (.agg (.pair (.int .u16) .str)) (.int .i64)), (4031, .map 34 3 (.agg (.pair (.int .u16) .str)) (.int .i64)), (4033, .box (.agg (.pair (.val (.int .i64)) (.pair (.val (.int .i64)) (.pair (.mp 4029) (.pair (.mp 4030) (.mp 4031))))))), (5053, .box (.agg (.pair (.val (.int .i64)) (.pair (.val (.int .i64)) (.pair (.rs 705936) (.val (.pair (.int .i64) (.pair (.int .i64) (.pair (.int .i64) (.int .i64)))))))))), (705936, .row 65 (.sl 67 (.agg (.pair (.int .i64) (.pair (.agg (.pair (.int .u16) .str)) (.pair (.int .i64) (.int .i64))))))), (706938, .map 3 4 (.int .i64) .bool), (706940, .box (.agg (.pair (.rs 905938) (.mp 706938)))), (905938, .row 195 (.agg (.pair (.int .i64) (.pair (.int .i64) (.int .i64)))))]⟩], [], []⟩
noncomputable def T36o (n : Nat) : Tab := ⟨[], [e49o n, e50o n, e51o n, e52o n]⟩
noncomputable def e36o (n : Nat) : OE := c36o.entry Tryd.prog (T36o n) n
theorem ok36o {W0 : World} (n : Nat) : OOK Tryd.prog W0 (e36o n) := c36o.sound (.ocons (ok49o n) (.ocons (ok50o n) (.ocons (ok51o n) (.ocons (ok52o n) .nil)))) n Tryd.func36 (by kernel_rfl) (by kernel_rfl)
noncomputable def f36o (n : Nat) (c : (Int × (Int × (Int × (Int × (Int × (Int × Int))))))) : Option ((((Unit × Int) × Unit) ⊕ (((Unit × Int) × (List (Int × Bool) × ((Unit × (Unit × (Unit × (Unit × (Unit × Int))))) × (List (Int × Bool) × ((Unit × Unit) × (List (Int × (Int × Int)) × Unit)))))) ⊕ (((Unit × Int) × (List (Int × Bool) × ((Unit × (Unit × (Unit × (Unit × (Unit × Int))))) × ((Int × (Int × (Unit × (Int × (Int × (Int × Int)))))) × (List (List (Int × ((Int × ByteArray) × (Int × Int)))) × (List (Int × Bool) × ((Unit × Unit) × (List (Int × (Int × Int)) × Unit)))))))) ⊕ (((Unit × Int) × (List (Int × Bool) × ((Unit × (Unit × (Unit × (Unit × (Unit × Int))))) × (List (Int × Unit) × (List ((Int × ByteArray) × Int) × (List ((Int × ByteArray) × Int) × ((Int × (Int × (Unit × (Unit × Unit)))) × (List (Int × Bool) × ((Unit × Unit) × (List (Int × (Int × Int)) × Unit)))))))))) ⊕ (((Unit × Int) × (List (Int × Bool) × ((Unit × (Unit × (Unit × (Unit × (Unit × Int))))) × (List (Int × Unit) × (List ((Int × ByteArray) × Int) × (List ((Int × ByteArray) × Int) × ((Int × (Int × (Unit × (Unit × Unit)))) × ((Int × (Int × (Unit × (Int × (Int × (Int × Int)))))) × (List (List (Int × ((Int × ByteArray) × (Int × Int)))) × (List (Int × Bool) × ((Unit × Unit) × (List (Int × (Int × Int)) × Unit)))))))))))) ⊕ (((Unit × Int) × (List (Int × Bool) × ((Unit × (Unit × (Unit × (Unit × (Unit × Int))))) × (List ((Int × ByteArray) × ((Int × ByteArray) × ((Int × (Int × (Int × Int))) × Int))) × (((Int × (Int × (Int × (Int × (Int × (Int × Int)))))) × (Unit × (Unit × Int))) × (List (Int × Bool) × ((Unit × Unit) × (List (Int × (Int × Int)) × Unit)))))))) ⊕ (((Unit × Int) × (List (Int × Bool) × ((Unit × (Unit × (Unit × (Unit × (Unit × Int))))) × (List ((Int × ByteArray) × ((Int × ByteArray) × ((Int × (Int × (Int × Int))) × Int))) × (((Int × (Int × (Int × (Int × (Int × (Int × Int)))))) × (Unit × (Unit × Int))) × ((Int × (Int × (Unit × (Int × (Int × (Int × Int)))))) × (List (List (Int × ((Int × ByteArray) × (Int × Int)))) × (List (Int × Bool) × ((Unit × Unit) × (List (Int × (Int × Int)) × Unit)))))))))) ⊕ (((Unit × Int) × (List (Int × Bool) × ((Unit × (Unit × (Unit × (Unit × (Unit × Int))))) × (List ((Int × ByteArray) × ((Int × ByteArray) × ((Int × (Int × (Int × Int))) × Int))) × (((Int × (Int × (Int × (Int × (Int × (Int × Int)))))) × (Unit × (Unit × Int))) × (List (Int × Unit) × (List ((Int × ByteArray) × Int) × (List ((Int × ByteArray) × Int) × ((Int × (Int × (Unit × (Unit × Unit)))) × (List (Int × Bool) × ((Unit × Unit) × (List (Int × (Int × Int)) × Unit)))))))))))) ⊕ (((Unit × Int) × (List (Int × Bool) × ((Unit × (Unit × (Unit × (Unit × (Unit × Int))))) × (List ((Int × ByteArray) × ((Int × ByteArray) × ((Int × (Int × (Int × Int))) × Int))) × (((Int × (Int × (Int × (Int × (Int × (Int × Int)))))) × (Unit × (Unit × Int))) × (List (Int × Unit) × (List ((Int × ByteArray) × Int) × (List ((Int × ByteArray) × Int) × ((Int × (Int × (Unit × (Unit × Unit)))) × ((Int × (Int × (Unit × (Int × (Int × (Int × Int)))))) × (List (List (Int × ((Int × ByteArray) × (Int × Int)))) × (List (Int × Bool) × ((Unit × Unit) × (List (Int × (Int × Int)) × Unit)))))))))))))) ⊕ (((Unit × Int) × (List (Int × Bool) × ((Unit × (Unit × (Unit × (Unit × (Unit × Int))))) × (List ((Int × ByteArray) × ((Int × ByteArray) × ((Int × (Int × (Int × Int))) × Int))) × (((Int × (Int × (Int × (Int × (Int × (Int × Int)))))) × (Unit × (Unit × Int))) × (List ((Int × ByteArray) × Unit) × ((Int × (Unit × (Unit × Unit))) × (List (Int × Bool) × ((Unit × Unit) × (List (Int × (Int × Int)) × Unit)))))))))) ⊕ (((Unit × Int) × (List (Int × Bool) × ((Unit × (Unit × (Unit × (Unit × (Unit × Int))))) × (List ((Int × ByteArray) × ((Int × ByteArray) × ((Int × (Int × (Int × Int))) × Int))) × (((Int × (Int × (Int × (Int × (Int × (Int × Int)))))) × (Unit × (Unit × Int))) × (List ((Int × ByteArray) × Unit) × ((Int × (Unit × (Unit × Unit))) × ((Int × (Int × (Unit × (Int × (Int × (Int × Int)))))) × (List (List (Int × ((Int × ByteArray) × (Int × Int)))) × (List (Int × Bool) × ((Unit × Unit) × (List (Int × (Int × Int)) × Unit)))))))))))) ⊕ (((Unit × Int) × (List (Int × Bool) × ((Unit × (Unit × (Unit × (Unit × (Unit × Int))))) × (List ((Int × ByteArray) × ((Int × ByteArray) × ((Int × (Int × (Int × Int))) × Int))) × (((Int × (Int × (Int × (Int × (Int × (Int × Int)))))) × (Unit × (Unit × Int))) × (List ((Int × ByteArray) × Unit) × ((Int × (Unit × (Unit × Unit))) × (List (Int × Unit) × (List ((Int × ByteArray) × Int) × (List ((Int × ByteArray) × Int) × ((Int × (Int × (Unit × (Unit × Unit)))) × (List (Int × Bool) × ((Unit × Unit) × (List (Int × (Int × Int)) × Unit)))))))))))))) ⊕ ((Unit × Int) × (List (Int × Bool) × ((Unit × (Unit × (Unit × (Unit × (Unit × Int))))) × (List ((Int × ByteArray) × ((Int × ByteArray) × ((Int × (Int × (Int × Int))) × Int))) × (((Int × (Int × (Int × (Int × (Int × (Int × Int)))))) × (Unit × (Unit × Int))) × (List ((Int × ByteArray) × Unit) × ((Int × (Unit × (Unit × Unit))) × (List (Int × Unit) × (List ((Int × ByteArray) × Int) × (List ((Int × ByteArray) × Int) × ((Int × (Int × (Unit × (Unit × Unit)))) × ((Int × (Int × (Unit × (Int × (Int × (Int × Int)))))) × (List (List (Int × ((Int × ByteArray) × (Int × Int)))) × (List (Int × Bool) × ((Unit × Unit) × (List (Int × (Int × Int)) × Unit))))))))))))))))))))))))))))) := c36o.f Tryd.prog (T36o n) n c ()
theorem f36o_eq (n : Nat) (c : (Int × (Int × (Int × (Int × (Int × (Int × Int))))))) : f36o n c =
  (f49o n c).bind fun r1 =>
  Sum.elim (fun p2 =>
   bif p2.fst.snd != (0 : Int) then
    some (Sum.inl (((), p2.fst.snd), ()))
   else
    (f50o n c.snd.snd.snd.snd.fst).bind fun r3 =>
    Sum.elim (fun p4 =>
     (f51o n c.snd.snd.snd.snd.snd.fst c.snd.snd.snd.snd.snd.snd).bind fun r5 =>
     Sum.elim (fun p6 =>
      (f52o n).bind fun r7 =>
      some (Sum.inr (Sum.inl (((), (0 : Int)), ([], ((), ((), ((), ((), ((), (0 : Int)))))), r7.snd.fst, ((), ()), r7.snd.snd.snd.fst, ()))))) (fun p6 =>
      (f52o n).bind fun r8 =>
      some (Sum.inr (Sum.inr (Sum.inl (((), (0 : Int)), ([], ((), ((), ((), ((), ((), (0 : Int)))))), (p6.snd.fst.fst, (p6.snd.fst.snd.fst, ((), p6.snd.fst.snd.snd.snd))), p6.snd.snd.fst, r8.snd.fst, ((), ()), r8.snd.snd.snd.fst, ())))))) r5) (fun p4 =>
     (f51o n c.snd.snd.snd.snd.snd.fst c.snd.snd.snd.snd.snd.snd).bind fun r9 =>
     Sum.elim (fun p10 =>
      (f52o n).bind fun r11 =>
      some (Sum.inr (Sum.inr (Sum.inr (Sum.inl (((), (0 : Int)), ([], ((), ((), ((), ((), ((), (0 : Int)))))), p4.snd.fst, p4.snd.snd.fst, p4.snd.snd.snd.fst, (p4.snd.snd.snd.snd.fst.fst, (p4.snd.snd.snd.snd.fst.snd.fst, ((), ((), ())))), r11.snd.fst, ((), ()), r11.snd.snd.snd.fst, ()))))))) (fun p10 =>
      (f52o n).bind fun r12 =>
      some (Sum.inr (Sum.inr (Sum.inr (Sum.inr (Sum.inl (((), (0 : Int)), ([], ((), ((), ((), ((), ((), (0 : Int)))))), p4.snd.fst, p4.snd.snd.fst, p4.snd.snd.snd.fst, (p4.snd.snd.snd.snd.fst.fst, (p4.snd.snd.snd.snd.fst.snd.fst, ((), ((), ())))), (p10.snd.fst.fst, (p10.snd.fst.snd.fst, ((), p10.snd.fst.snd.snd.snd))), p10.snd.snd.fst, r12.snd.fst, ((), ()), r12.snd.snd.snd.fst, ())))))))) r9) r3) (fun p2 =>
   Sum.elim (fun p13 =>
    bif p13.fst.snd != (0 : Int) then
     some (Sum.inl (((), p13.fst.snd), ()))
    else
     (f50o n c.snd.snd.snd.snd.fst).bind fun r14 =>
     Sum.elim (fun p15 =>
      (f51o n c.snd.snd.snd.snd.snd.fst c.snd.snd.snd.snd.snd.snd).bind fun r16 =>
      Sum.elim (fun p17 =>
       (f52o n).bind fun r18 =>
       some (Sum.inr (Sum.inr (Sum.inr (Sum.inr (Sum.inr (Sum.inl (((), (0 : Int)), ([], ((), ((), ((), ((), ((), (0 : Int)))))), p13.snd.fst, (p13.snd.snd.fst.fst, ((), ((), p13.snd.snd.fst.snd.snd.snd))), r18.snd.fst, ((), ()), r18.snd.snd.snd.fst, ()))))))))) (fun p17 =>
       (f52o n).bind fun r19 =>
       some (Sum.inr (Sum.inr (Sum.inr (Sum.inr (Sum.inr (Sum.inr (Sum.inl (((), (0 : Int)), ([], ((), ((), ((), ((), ((), (0 : Int)))))), p13.snd.fst, (p13.snd.snd.fst.fst, ((), ((), p13.snd.snd.fst.snd.snd.snd))), (p17.snd.fst.fst, (p17.snd.fst.snd.fst, ((), p17.snd.fst.snd.snd.snd))), p17.snd.snd.fst, r19.snd.fst, ((), ()), r19.snd.snd.snd.fst, ())))))))))) r16) (fun p15 =>
      (f51o n c.snd.snd.snd.snd.snd.fst c.snd.snd.snd.snd.snd.snd).bind fun r20 =>
      Sum.elim (fun p21 =>
       (f52o n).bind fun r22 =>
       some (Sum.inr (Sum.inr (Sum.inr (Sum.inr (Sum.inr (Sum.inr (Sum.inr (Sum.inl (((), (0 : Int)), ([], ((), ((), ((), ((), ((), (0 : Int)))))), p13.snd.fst, (p13.snd.snd.fst.fst, ((), ((), p13.snd.snd.fst.snd.snd.snd))), p15.snd.fst, p15.snd.snd.fst, p15.snd.snd.snd.fst, (p15.snd.snd.snd.snd.fst.fst, (p15.snd.snd.snd.snd.fst.snd.fst, ((), ((), ())))), r22.snd.fst, ((), ()), r22.snd.snd.snd.fst, ()))))))))))) (fun p21 =>
       (f52o n).bind fun r23 =>
       some (Sum.inr (Sum.inr (Sum.inr (Sum.inr (Sum.inr (Sum.inr (Sum.inr (Sum.inr (Sum.inl (((), (0 : Int)), ([], ((), ((), ((), ((), ((), (0 : Int)))))), p13.snd.fst, (p13.snd.snd.fst.fst, ((), ((), p13.snd.snd.fst.snd.snd.snd))), p15.snd.fst, p15.snd.snd.fst, p15.snd.snd.snd.fst, (p15.snd.snd.snd.snd.fst.fst, (p15.snd.snd.snd.snd.fst.snd.fst, ((), ((), ())))), (p21.snd.fst.fst, (p21.snd.fst.snd.fst, ((), p21.snd.fst.snd.snd.snd))), p21.snd.snd.fst, r23.snd.fst, ((), ()), r23.snd.snd.snd.fst, ())))))))))))) r20) r14) (fun p13 =>
    bif p13.fst.snd != (0 : Int) then
     some (Sum.inl (((), p13.fst.snd), ()))
    else
     (f50o n c.snd.snd.snd.snd.fst).bind fun r24 =>
     Sum.elim (fun p25 =>
      (f51o n c.snd.snd.snd.snd.snd.fst c.snd.snd.snd.snd.snd.snd).bind fun r26 =>
      Sum.elim (fun p27 =>
       (f52o n).bind fun r28 =>
       some (Sum.inr (Sum.inr (Sum.inr (Sum.inr (Sum.inr (Sum.inr (Sum.inr (Sum.inr (Sum.inr (Sum.inl (((), (0 : Int)), ([], ((), ((), ((), ((), ((), (0 : Int)))))), p13.snd.fst, (p13.snd.snd.fst.fst, ((), ((), p13.snd.snd.fst.snd.snd.snd))), p13.snd.snd.snd.fst, (p13.snd.snd.snd.snd.fst.fst, ((), ((), ()))), r28.snd.fst, ((), ()), r28.snd.snd.snd.fst, ()))))))))))))) (fun p27 =>
       (f52o n).bind fun r29 =>
       some (Sum.inr (Sum.inr (Sum.inr (Sum.inr (Sum.inr (Sum.inr (Sum.inr (Sum.inr (Sum.inr (Sum.inr (Sum.inl (((), (0 : Int)), ([], ((), ((), ((), ((), ((), (0 : Int)))))), p13.snd.fst, (p13.snd.snd.fst.fst, ((), ((), p13.snd.snd.fst.snd.snd.snd))), p13.snd.snd.snd.fst, (p13.snd.snd.snd.snd.fst.fst, ((), ((), ()))), (p27.snd.fst.fst, (p27.snd.fst.snd.fst, ((), p27.snd.fst.snd.snd.snd))), p27.snd.snd.fst, r29.snd.fst, ((), ()), r29.snd.snd.snd.fst, ())))))))))))))) r26) (fun p25 =>
      (f51o n c.snd.snd.snd.snd.snd.fst c.snd.snd.snd.snd.snd.snd).bind fun r30 =>
      Sum.elim (fun p31 =>
       (f52o n).bind fun r32 =>
       some (Sum.inr (Sum.inr (Sum.inr (Sum.inr (Sum.inr (Sum.inr (Sum.inr (Sum.inr (Sum.inr (Sum.inr (Sum.inr (Sum.inl (((), (0 : Int)), ([], ((), ((), ((), ((), ((), (0 : Int)))))), p13.snd.fst, (p13.snd.snd.fst.fst, ((), ((), p13.snd.snd.fst.snd.snd.snd))), p13.snd.snd.snd.fst, (p13.snd.snd.snd.snd.fst.fst, ((), ((), ()))), p25.snd.fst, p25.snd.snd.fst, p25.snd.snd.snd.fst, (p25.snd.snd.snd.snd.fst.fst, (p25.snd.snd.snd.snd.fst.snd.fst, ((), ((), ())))), r32.snd.fst, ((), ()), r32.snd.snd.snd.fst, ()))))))))))))))) (fun p31 =>
       (f52o n).bind fun r33 =>
       some (Sum.inr (Sum.inr (Sum.inr (Sum.inr (Sum.inr (Sum.inr (Sum.inr (Sum.inr (Sum.inr (Sum.inr (Sum.inr (Sum.inr ((((), (0 : Int)), ([], ((), ((), ((), ((), ((), (0 : Int)))))), p13.snd.fst, (p13.snd.snd.fst.fst, ((), ((), p13.snd.snd.fst.snd.snd.snd))), p13.snd.snd.snd.fst, (p13.snd.snd.snd.snd.fst.fst, ((), ((), ()))), p25.snd.fst, p25.snd.snd.fst, p25.snd.snd.snd.fst, (p25.snd.snd.snd.snd.fst.fst, (p25.snd.snd.snd.snd.fst.snd.fst, ((), ((), ())))), (p31.snd.fst.fst, (p31.snd.fst.snd.fst, ((), p31.snd.fst.snd.snd.snd))), p31.snd.snd.fst, r33.snd.fst, ((), ()), r33.snd.snd.snd.fst, ())))))))))))))))) r30) r24) p2) r1 := by kernel_rfl
/- convoy/recipe.may -/
noncomputable def c65 : Cfg := ⟨65, Tryd.f65, [(.agg (.pair (.int .i64) (.pair (.int .i64) (.int .i64))))], [.bool], 7, [], []⟩
noncomputable def T65 (n : Nat) : Tab := ⟨[e34 n], []⟩
noncomputable def e65 (n : Nat) : Entry := c65.entry Tryd.prog (T65 n) n
theorem ok65 {W0 : World} (n : Nat) : FnOK Tryd.prog W0 (e65 n) := c65.sound (.cons (ok34 n) .nil) n Tryd.func65 (by kernel_rfl) (by kernel_rfl)
noncomputable def f65 (n : Nat) (s : (Int × (Int × Int))) : Option (Bool) := c65.f Tryd.prog (T65 n) n s
theorem f65_eq (n : Nat) (s : (Int × (Int × Int))) : f65 n s =
  bif s.fst == (1 : Int) then
   bif s.fst == (1 : Int) then
    some (s.snd.snd == (0 : Int))
   else
    bif s.fst == (2 : Int) then
     bif s.snd.snd == (0 : Int) then
      bif decide (s.snd.fst ≥ (-63 : Int)) then
       some (decide (s.snd.fst ≤ (63 : Int)))
      else
       some false
     else
      some false
    else
     bif s.fst == (5 : Int) then
      bif s.snd.snd == (0 : Int) then
       bif decide (s.snd.fst ≥ (0 : Int)) then
        some (decide (s.snd.fst ≤ (63 : Int)))
       else
        some false
      else
       some false
     else
      bif s.fst == (6 : Int) then
       bif s.snd.snd == (0 : Int) then
        bif decide (s.snd.fst ≥ (0 : Int)) then
         some (decide (s.snd.fst < (256 : Int)))
        else
         some false
       else
        some false
      else
       bif s.fst == (7 : Int) then
        bif s.snd.snd == (0 : Int) then
         (f34 n s.snd.fst).bind fun r1 =>
         some r1
        else
         some false
       else
        bif s.fst == (9 : Int) then
         bif decide (s.snd.fst ≥ (0 : Int)) then
          bif decide (s.snd.fst ≤ (3 : Int)) then
           bif decide (s.snd.snd ≥ (1 : Int)) then
            some (decide (s.snd.snd ≤ (256 : Int)))
           else
            some false
          else
           some false
         else
          some false
        else
         bif s.fst == (3 : Int) then
          bif s.fst == (3 : Int) then
           bif s.snd.fst == (0 : Int) then
            some (s.snd.snd == (0 : Int))
           else
            some false
          else
           some false
         else
          bif s.fst == (4 : Int) then
           bif s.fst == (4 : Int) then
            bif s.snd.fst == (0 : Int) then
             some (s.snd.snd == (0 : Int))
            else
             some false
           else
            some false
          else
           bif s.fst == (8 : Int) then
            bif s.fst == (8 : Int) then
             bif s.snd.fst == (0 : Int) then
              some (s.snd.snd == (0 : Int))
             else
              some false
            else
             some false
           else
            bif s.fst == (10 : Int) then
             bif s.snd.fst == (0 : Int) then
              some (s.snd.snd == (0 : Int))
             else
              some false
            else
             some false
  else
   bif s.fst == (11 : Int) then
    bif s.fst == (11 : Int) then
     some (s.snd.snd == (0 : Int))
    else
     bif s.fst == (2 : Int) then
      bif s.snd.snd == (0 : Int) then
       bif decide (s.snd.fst ≥ (-63 : Int)) then
        some (decide (s.snd.fst ≤ (63 : Int)))
       else
        some false
      else
       some false
     else
      bif s.fst == (5 : Int) then
       bif s.snd.snd == (0 : Int) then
        bif decide (s.snd.fst ≥ (0 : Int)) then
         some (decide (s.snd.fst ≤ (63 : Int)))
        else
         some false
       else
        some false
      else
       bif s.fst == (6 : Int) then
        bif s.snd.snd == (0 : Int) then
         bif decide (s.snd.fst ≥ (0 : Int)) then
          some (decide (s.snd.fst < (256 : Int)))
         else
          some false
        else
         some false
       else
        bif s.fst == (7 : Int) then
         bif s.snd.snd == (0 : Int) then
          (f34 n s.snd.fst).bind fun r2 =>
          some r2
         else
          some false
        else
         bif s.fst == (9 : Int) then
          bif decide (s.snd.fst ≥ (0 : Int)) then
           bif decide (s.snd.fst ≤ (3 : Int)) then
            bif decide (s.snd.snd ≥ (1 : Int)) then
             some (decide (s.snd.snd ≤ (256 : Int)))
            else
             some false
           else
            some false
          else
           some false
         else
          bif s.fst == (3 : Int) then
           bif s.fst == (3 : Int) then
            bif s.snd.fst == (0 : Int) then
             some (s.snd.snd == (0 : Int))
            else
             some false
           else
            some false
          else
           bif s.fst == (4 : Int) then
            bif s.fst == (4 : Int) then
             bif s.snd.fst == (0 : Int) then
              some (s.snd.snd == (0 : Int))
             else
              some false
            else
             some false
           else
            bif s.fst == (8 : Int) then
             bif s.fst == (8 : Int) then
              bif s.snd.fst == (0 : Int) then
               some (s.snd.snd == (0 : Int))
              else
               some false
             else
              some false
            else
             bif s.fst == (10 : Int) then
              bif s.snd.fst == (0 : Int) then
               some (s.snd.snd == (0 : Int))
              else
               some false
             else
              some false
   else
    bif s.fst == (12 : Int) then
     some (s.snd.snd == (0 : Int))
    else
     bif s.fst == (2 : Int) then
      bif s.snd.snd == (0 : Int) then
       bif decide (s.snd.fst ≥ (-63 : Int)) then
        some (decide (s.snd.fst ≤ (63 : Int)))
       else
        some false
      else
       some false
     else
      bif s.fst == (5 : Int) then
       bif s.snd.snd == (0 : Int) then
        bif decide (s.snd.fst ≥ (0 : Int)) then
         some (decide (s.snd.fst ≤ (63 : Int)))
        else
         some false
       else
        some false
      else
       bif s.fst == (6 : Int) then
        bif s.snd.snd == (0 : Int) then
         bif decide (s.snd.fst ≥ (0 : Int)) then
          some (decide (s.snd.fst < (256 : Int)))
         else
          some false
        else
         some false
       else
        bif s.fst == (7 : Int) then
         bif s.snd.snd == (0 : Int) then
          (f34 n s.snd.fst).bind fun r3 =>
          some r3
         else
          some false
        else
         bif s.fst == (9 : Int) then
          bif decide (s.snd.fst ≥ (0 : Int)) then
           bif decide (s.snd.fst ≤ (3 : Int)) then
            bif decide (s.snd.snd ≥ (1 : Int)) then
             some (decide (s.snd.snd ≤ (256 : Int)))
            else
             some false
           else
            some false
          else
           some false
         else
          bif s.fst == (3 : Int) then
           bif s.fst == (3 : Int) then
            bif s.snd.fst == (0 : Int) then
             some (s.snd.snd == (0 : Int))
            else
             some false
           else
            some false
          else
           bif s.fst == (4 : Int) then
            bif s.fst == (4 : Int) then
             bif s.snd.fst == (0 : Int) then
              some (s.snd.snd == (0 : Int))
             else
              some false
            else
             some false
           else
            bif s.fst == (8 : Int) then
             bif s.fst == (8 : Int) then
              bif s.snd.fst == (0 : Int) then
               some (s.snd.snd == (0 : Int))
              else
               some false
             else
              some false
            else
             bif s.fst == (10 : Int) then
              bif s.snd.fst == (0 : Int) then
               some (s.snd.snd == (0 : Int))
              else
               some false
             else
              some false := by kernel_rfl
/- convoy/recipe.Check$1 -/
noncomputable def c64 : Cfg := ⟨64, Tryd.f64, [(.agg (.pair (.int .i64) (.pair (.int .i64) (.int .i64))))], [.bool], 3, [], []⟩
noncomputable def T64 (n : Nat) : Tab := ⟨[e65 n], []⟩
noncomputable def e64 (n : Nat) : Entry := c64.entry Tryd.prog (T64 n) n
theorem ok64 {W0 : World} (n : Nat) : FnOK Tryd.prog W0 (e64 n) := c64.sound (.cons (ok65 n) .nil) n Tryd.func64 (by kernel_rfl) (by kernel_rfl)
noncomputable def f64 (n : Nat) (s : (Int × (Int × Int))) : Option (Bool) := c64.f Tryd.prog (T64 n) n s
theorem f64_eq (n : Nat) (s : (Int × (Int × Int))) : f64 n s =
  (f65 n s).bind fun r1 =>
  some !r1 := by kernel_rfl
/- slices.IndexFunc[[]convoy/api.Step,convoy/api.Step] -/
noncomputable def c63a : Cfg := ⟨63, Tryd.f63, [(.sl 74 (.agg (.pair (.int .i64) (.pair (.int .i64) (.int .i64))))), (.fn 64)], [(.int .i64)], 5, [], [(4, ⟨19, 5, [(0, (.val (.sl 74 (.agg (.pair (.int .i64) (.pair (.int .i64) (.int .i64))))))), (1, (.val (.fn 64))), (7, (.val (.int .i64))), (8, (.val (.int .i64)))], []⟩)]⟩
noncomputable def T63a (n : Nat) : Tab := ⟨[e64 n], []⟩
noncomputable def e63a (n : Nat) : Entry := c63a.entry Tryd.prog (T63a n) n
theorem ok63a {W0 : World} (n : Nat) : FnOK Tryd.prog W0 (e63a n) := c63a.sound (.cons (ok64 n) .nil) n Tryd.func63 (by kernel_rfl) (by kernel_rfl)
noncomputable def f63a (n : Nat) (s : List (Int × (Int × Int))) (f : Unit) : Option (Int) := c63a.f Tryd.prog (T63a n) n (s, f)
noncomputable def f63a_4 (n m : Nat) (s : List (Int × (Int × Int))) (f : Unit) (x7 : Int) (x8 : Int) : Option (Int) := c63a.LL Tryd.prog (T63a n) m 4 (s, f, x7, x8) ()
theorem f63a_4_zero (n : Nat) (s : List (Int × (Int × Int))) (f : Unit) (x7 : Int) (x8 : Int) : f63a_4 n 0 s f x7 x8 = none := rfl
theorem f63a_4_eq (n m : Nat) (s : List (Int × (Int × Int))) (f : Unit) (x7 : Int) (x8 : Int) : f63a_4 n (m + 1) s f x7 x8 =
  bif decide (x8 < x7) then
   bif decide ((0 : Int) ≤ x8 ∧ x8 < ↑s.length) then
    (f64 n (s.getD x8.toNat ((0 : Int), (0 : Int), (0 : Int)))).bind fun r1 =>
    bif r1 then
     some x8
    else
     f63a_4 n m s () x7 (Go.IntKind.i64.wrap (x8 + (1 : Int)))
   else
    none
  else
   some (-1 : Int) := by kernel_rfl
theorem f63a_eq (n : Nat) (s : List (Int × (Int × Int))) (f : Unit) : f63a n s f =
  f63a_4 n n s () ↑s.length (0 : Int) := by kernel_rfl
/- convoy/recipe.Check -/
noncomputable def c54 : Cfg := ⟨54, Tryd.f54, [(.sl 74 (.agg (.pair (.int .i64) (.pair (.int .i64) (.int .i64)))))], [(.int .i64), (.int .i64)], 4, [], []⟩
noncomputable def T54 (n : Nat) : Tab := ⟨[e63a n, e64 n], []⟩
noncomputable def e54 (n : Nat) : Entry := c54.entry Tryd.prog (T54 n) n
theorem ok54 {W0 : World} (n : Nat) : FnOK Tryd.prog W0 (e54 n) := c54.sound (.cons (ok63a n) (.cons (ok64 n) .nil)) n Tryd.func54 (by kernel_rfl) (by kernel_rfl)
noncomputable def f54 (n : Nat) (l : List (Int × (Int × Int))) : Option (Int × Int) := c54.f Tryd.prog (T54 n) n l
theorem f54_eq (n : Nat) (l : List (Int × (Int × Int))) : f54 n l =
  bif decide (↑l.length > (256 : Int)) then
   some ((256 : Int), (3 : Int))
  else
   (f63a n l ()).bind fun r1 =>
   bif decide (r1 ≥ (0 : Int)) then
    some (r1, (80 : Int))
   else
    some ((0 : Int), (0 : Int)) := by kernel_rfl
noncomputable def s71x0 : ByteArray := { data := #[99, 97, 108, 108] }
noncomputable def s71x1 : ByteArray := { data := #[115, 116, 97, 114, 116] }
noncomputable def s71x2 : ByteArray := { data := #[97, 119, 97, 105, 116] }
noncomputable def s71x3 : ByteArray := { data := #[102, 111, 114, 103, 101, 116] }
noncomputable def s71x4 : ByteArray := { data := #[99, 97, 110, 99, 101, 108] }
noncomputable def s71x5 : ByteArray := { data := #[111, 112, 101, 110] }
noncomputable def s71x6 : ByteArray := { data := #[115, 104, 117, 116] }
noncomputable def s71x7 : ByteArray := { data := #[115, 108, 101, 101, 112] }
noncomputable def s71x8 : ByteArray := { data := #[116, 111, 107, 101, 110] }
/- convoy/client.formOf -/
noncomputable def c71 : Cfg := ⟨71, Tryd.f71, [(.int .i64)], [(.agg (.pair .str (.pair .bool (.pair .bool (.pair .bool (.int .i64))))))], 5, [], []⟩
noncomputable def T71 (_ : Nat) : Tab := ⟨[], []⟩
noncomputable def e71 (n : Nat) : Entry := c71.entry Tryd.prog (T71 n) n
theorem ok71 {W0 : World} (n : Nat) : FnOK Tryd.prog W0 (e71 n) := c71.sound .nil n Tryd.func71 (by kernel_rfl) (by kernel_rfl)
noncomputable def f71 (n : Nat) (op : Int) : Option ((ByteArray × (Bool × (Bool × (Bool × Int))))) := c71.f Tryd.prog (T71 n) n op
theorem f71_eq (n : Nat) (op : Int) : f71 n op =
  bif op == (1 : Int) then
   some ((s71x0, true, false, false, (0 : Int)))
  else
   bif op == (2 : Int) then
    some ((s71x1, true, true, false, (0 : Int)))
   else
    bif op == (3 : Int) then
     some ((s71x2, false, true, false, (0 : Int)))
    else
     bif op == (4 : Int) then
      some ((s71x3, true, false, false, (0 : Int)))
     else
      bif op == (5 : Int) then
       some ((s71x4, false, false, true, (1024 : Int)))
      else
       bif op == (6 : Int) then
        some ((s71x5, false, false, true, (255 : Int)))
       else
        bif op == (7 : Int) then
         some ((s71x6, false, false, true, (255 : Int)))
        else
         bif op == (8 : Int) then
          some ((s71x7, false, false, true, (4611686018427387904 : Int)))
         else
          bif op == (9 : Int) then
           some ((s71x8, false, false, true, (1024 : Int)))
          else
           some ((ByteArray.empty, false, false, false, (0 : Int))) := by kernel_rfl
end Go.Proofs.YtaakmifjkobkgaaDoor
