/- What functions compute: printed, and checked by the kernel. -/
import Derived.Test.YtaakmifjkobkgaaDoorGs
namespace Go.Proofs.YtaakmifjkobkgaaDoor
open Go.Rf
noncomputable def s9x0 : ByteArray := { data := #[104, 101, 114, 100] }
noncomputable def s9x1 : ByteArray := { data := #[116, 114, 105, 99, 107, 108, 101] }
noncomputable def s9x2 : ByteArray := { data := #[115, 116, 111, 114, 109] }
noncomputable def s9x3 : ByteArray := { data := #[108, 101, 97, 118, 101] }
noncomputable def s9x4 : ByteArray := { data := #[102, 111, 114, 103, 101, 116] }
noncomputable def s9x5 : ByteArray := { data := #[98, 97, 116, 99, 104] }
/- convoy/story.Name -/
noncomputable def c9 : Cfg := ⟨9, Tryd.f9, [(.int .i64)], [.str], 4, [], []⟩
noncomputable def T9 (_ : Nat) : Tab := ⟨[], []⟩
noncomputable def e9 (n : Nat) : Entry := c9.entry Tryd.prog (T9 n) n
theorem ok9 {W0 : World} (n : Nat) : FnOK Tryd.prog W0 (e9 n) := c9.sound .nil n Tryd.func9 (by kernel_rfl) (by kernel_rfl)
noncomputable def f9 (n : Nat) (kind : Int) : Option (ByteArray) := c9.f Tryd.prog (T9 n) n kind
theorem f9_eq (n : Nat) (kind : Int) : f9 n kind =
  bif kind == (1 : Int) then
   some s9x0
  else
   bif kind == (2 : Int) then
    some s9x1
   else
    bif kind == (3 : Int) then
     some s9x2
    else
     bif kind == (4 : Int) then
      some s9x3
     else
      bif kind == (5 : Int) then
       some s9x4
      else
       bif kind == (6 : Int) then
        some s9x5
       else
        some ByteArray.empty := by kernel_rfl
/- convoy/story.in -/
noncomputable def c33 : Cfg := ⟨33, Tryd.f33, [(.int .i64)], [.bool], 4, [], []⟩
noncomputable def T33 (_ : Nat) : Tab := ⟨[], []⟩
noncomputable def e33 (n : Nat) : Entry := c33.entry Tryd.prog (T33 n) n
theorem ok33 {W0 : World} (n : Nat) : FnOK Tryd.prog W0 (e33 n) := c33.sound .nil n Tryd.func33 (by kernel_rfl) (by kernel_rfl)
noncomputable def f33 (n : Nat) (a0 : Int) : Option (Bool) := c33.f Tryd.prog (T33 n) n a0
theorem f33_eq (n : Nat) (a0 : Int) : f33 n a0 =
  bif decide (a0 ≥ (1 : Int)) then
   some (decide (a0 ≤ (64 : Int)))
  else
   some false := by kernel_rfl
/- convoy/tick.Is -/
noncomputable def c34 : Cfg := ⟨34, Tryd.f34, [(.int .i64)], [.bool], 4, [], []⟩
noncomputable def T34 (_ : Nat) : Tab := ⟨[], []⟩
noncomputable def e34 (n : Nat) : Entry := c34.entry Tryd.prog (T34 n) n
theorem ok34 {W0 : World} (n : Nat) : FnOK Tryd.prog W0 (e34 n) := c34.sound .nil n Tryd.func34 (by kernel_rfl) (by kernel_rfl)
noncomputable def f34 (n : Nat) (t : Int) : Option (Bool) := c34.f Tryd.prog (T34 n) n t
theorem f34_eq (n : Nat) (t : Int) : f34 n t =
  bif decide (t ≥ (0 : Int)) then
   some (decide (t ≤ (4611686018427387904 : Int)))
  else
   some false := by kernel_rfl
/- convoy/story.Check -/
noncomputable def c20 : Cfg := ⟨20, Tryd.f20, [(.agg (.pair (.int .i64) (.pair (.int .i64) (.pair (.int .i64) (.pair (.int .i64) (.pair (.int .i64) (.int .u64)))))))], [(.int .i64)], 5, [], []⟩
noncomputable def T20 (n : Nat) : Tab := ⟨[e9 n, e33 n, e34 n], []⟩
noncomputable def e20 (n : Nat) : Entry := c20.entry Tryd.prog (T20 n) n
theorem ok20 {W0 : World} (n : Nat) : FnOK Tryd.prog W0 (e20 n) := c20.sound (.cons (ok9 n) (.cons (ok33 n) (.cons (ok34 n) .nil))) n Tryd.func20 (by kernel_rfl) (by kernel_rfl)
noncomputable def f20 (n : Nat) (t : (Int × (Int × (Int × (Int × (Int × Int)))))) : Option (Int) := c20.f Tryd.prog (T20 n) n t
theorem f20_eq (n : Nat) (t : (Int × (Int × (Int × (Int × (Int × Int)))))) : f20 n t =
  (f9 n t.fst).bind fun r1 =>
  bif ByteArray.toList r1 == ByteArray.empty.toList then
   some (290 : Int)
  else
   (f33 n t.snd.fst).bind fun r2 =>
   bif !r2 then
    some (290 : Int)
   else
    (f33 n t.snd.snd.fst).bind fun r3 =>
    bif !r3 then
     some (290 : Int)
    else
     (f33 n t.snd.snd.snd.fst).bind fun r4 =>
     bif !r4 then
      some (290 : Int)
     else
      (f34 n t.snd.snd.snd.snd.fst).bind fun r5 =>
      bif !r5 then
       some (290 : Int)
      else
       some (0 : Int) := by kernel_rfl
noncomputable def s15x0 : ByteArray := { data := #[107] }
/- convoy/story.Key -/
noncomputable def c15 : Cfg := ⟨15, Tryd.f15, [(.int .i64)], [(.agg (.pair (.int .u16) .str))], 3, [], []⟩
noncomputable def T15 (n : Nat) : Tab := ⟨[e29 n], []⟩
noncomputable def e15 (n : Nat) : Entry := c15.entry Tryd.prog (T15 n) n
theorem ok15 {W0 : World} (n : Nat) : FnOK Tryd.prog W0 (e15 n) := c15.sound (.cons (ok29 n) .nil) n Tryd.func15 (by kernel_rfl) (by kernel_rfl)
noncomputable def f15 (n : Nat) (a0 : Int) : Option ((Int × ByteArray)) := c15.f Tryd.prog (T15 n) n a0
theorem f15_eq (n : Nat) (a0 : Int) : f15 n a0 =
  (f29 n (if (0 : Int) > a0 then (0 : Int) else a0)).bind fun r1 =>
  bif decide (↑((1 : Nat) + ByteArray.size r1) > Int.ofNat (9223372036854775807 : Nat)) then
   none
  else
   some (((0 : Int), s15x0 ++ r1)) := by kernel_rfl
/- (convoy/story.teller).herd -/
noncomputable def c43 : Cfg := ⟨43, Tryd.f43, [(.agg (.agg (.pair (.int .i64) (.pair (.int .i64) (.pair (.int .i64) (.pair (.int .i64) (.pair (.int .i64) (.int .u64)))))))), (.int .i64)], [(.sl 67 (.agg (.pair (.int .i64) (.pair (.agg (.pair (.int .u16) .str)) (.pair (.int .i64) (.int .i64))))))], 5, [], [(6, ⟨18, 5, [(5, (.rs 1005)), (8, (.val (.int .i64))), (9, (.val (.int .i64)))], [(1005, .row 67 (.agg (.pair (.int .i64) (.pair (.agg (.pair (.int .u16) .str)) (.pair (.int .i64) (.int .i64))))))]⟩)]⟩
noncomputable def T43 (n : Nat) : Tab := ⟨[e15 n], []⟩
noncomputable def e43 (n : Nat) : Entry := c43.entry Tryd.prog (T43 n) n
theorem ok43 {W0 : World} (n : Nat) : FnOK Tryd.prog W0 (e43 n) := c43.sound (.cons (ok15 n) .nil) n Tryd.func43 (by kernel_rfl) (by kernel_rfl)
noncomputable def f43 (n : Nat) (x : (Int × (Int × (Int × (Int × (Int × Int)))))) (i : Int) : Option (List (Int × ((Int × ByteArray) × (Int × Int)))) := c43.f Tryd.prog (T43 n) n (x, i)
noncomputable def f43_6 (n m : Nat) (x8 : Int) (x9 : Int) (l1005 : List (Int × ((Int × ByteArray) × (Int × Int)))) : Option (List (Int × ((Int × ByteArray) × (Int × Int)))) := c43.LL Tryd.prog (T43 n) m 6 ((), x8, x9) (l1005, ())
theorem f43_6_zero (n : Nat) (x8 : Int) (x9 : Int) (l1005 : List (Int × ((Int × ByteArray) × (Int × Int)))) : f43_6 n 0 x8 x9 l1005 = none := rfl
theorem f43_6_eq (n m : Nat) (x8 : Int) (x9 : Int) (l1005 : List (Int × ((Int × ByteArray) × (Int × Int)))) : f43_6 n (m + 1) x8 x9 l1005 =
  bif decide (x9 < x8) then
   (f15 n (0 : Int)).bind fun r1 =>
   bif decide ((l1005.length + [((1 : Int), r1, (0 : Int), (0 : Int))].length) * (48 : Nat) ≤ Go.Rf.maxBytes) then
    f43_6 n m x8 (Go.IntKind.i64.wrap (x9 + (1 : Int))) (l1005 ++ [((1 : Int), r1, (0 : Int), (0 : Int))])
   else
    none
  else
   some l1005 := by kernel_rfl
theorem f43_eq (n : Nat) (x : (Int × (Int × (Int × (Int × (Int × Int)))))) (i : Int) : f43 n x i =
  f43_6 n n x.snd.snd.fst (0 : Int) [] := by kernel_rfl
/- (convoy/story.teller).program -/
noncomputable def c31 : Cfg := ⟨31, Tryd.f31, [(.agg (.agg (.pair (.int .i64) (.pair (.int .i64) (.pair (.int .i64) (.pair (.int .i64) (.pair (.int .i64) (.int .u64)))))))), (.int .i64)], [(.sl 67 (.agg (.pair (.int .i64) (.pair (.agg (.pair (.int .u16) .str)) (.pair (.int .i64) (.int .i64))))))], 6, [], []⟩
noncomputable def T31 (n : Nat) : Tab := ⟨[e43 n], []⟩
noncomputable def e31 (n : Nat) : Entry := c31.entry Tryd.prog (T31 n) n
theorem ok31 {W0 : World} (n : Nat) : FnOK Tryd.prog W0 (e31 n) := c31.sound (.cons (ok43 n) .nil) n Tryd.func31 (by kernel_rfl) (by kernel_rfl)
noncomputable def f31 (n : Nat) (x : (Int × (Int × (Int × (Int × (Int × Int)))))) (i : Int) : Option (List (Int × ((Int × ByteArray) × (Int × Int)))) := c31.f Tryd.prog (T31 n) n (x, i)
theorem f31_eq (n : Nat) (x : (Int × (Int × (Int × (Int × (Int × Int)))))) (i : Int) : f31 n x i =
  bif x.fst == (2 : Int) then
   none
  else
   bif x.fst == (3 : Int) then
    none
   else
    bif x.fst == (4 : Int) then
     none
    else
     bif x.fst == (5 : Int) then
      none
     else
      bif x.fst == (6 : Int) then
       none
      else
       (f43 n x i).bind fun r1 =>
       some r1 := by kernel_rfl
/- convoy/story.Make -/
noncomputable def c17 : Cfg := ⟨17, Tryd.f17, [(.agg (.pair (.int .i64) (.pair (.int .i64) (.pair (.int .i64) (.pair (.int .i64) (.pair (.int .i64) (.int .u64))))))), (.agg (.pair (.int .i64) (.pair (.int .i64) (.pair (.int .i64) (.pair (.int .i64) (.pair (.int .i64) (.pair (.int .i64) (.int .i64))))))))], [(.agg (.pair (.agg (.pair (.int .i64) (.pair (.int .i64) (.pair (.int .i64) (.pair (.int .i64) (.pair (.int .i64) (.pair (.int .i64) (.int .i64)))))))) (.pair (.sl 77 (.agg (.pair (.agg (.pair (.int .u16) .str)) (.sl 74 (.agg (.pair (.int .i64) (.pair (.int .i64) (.int .i64)))))))) (.pair (.sl 65 (.sl 67 (.agg (.pair (.int .i64) (.pair (.agg (.pair (.int .u16) .str)) (.pair (.int .i64) (.int .i64))))))) (.pair (.int .i64) (.pair (.int .u64) (.sl 3 (.int .i64)))))))), (.int .i64)], 6, [], [(12, ⟨58, 6, [(2, (.ptr 1002 [])), (4, (.ptr 1004 [])), (7, (.ptr 1007 [])), (22, (.val (.int .i64))), (23, (.val (.int .i64)))], [(1002, .box (.val (.agg (.pair (.int .i64) (.pair (.int .i64) (.pair (.int .i64) (.pair (.int .i64) (.pair (.int .i64) (.int .u64))))))))), (1004, .box (.agg (.pair (.val (.agg (.pair (.int .i64) (.pair (.int .i64) (.pair (.int .i64) (.pair (.int .i64) (.pair (.int .i64) (.pair (.int .i64) (.int .i64))))))))) (.pair (.rs 700401) (.pair (.rs 700402) (.pair (.val (.int .i64)) (.pair (.val (.int .u64)) (.rs 700405)))))))), (1007, .box (.agg (.pair (.val (.agg (.pair (.int .i64) (.pair (.int .i64) (.pair (.int .i64) (.pair (.int .i64) (.pair (.int .i64) (.pair (.int .i64) (.int .i64))))))))) (.pair (.rs 700701) (.pair (.rs 700702) (.pair (.val (.int .i64)) (.pair (.val (.int .u64)) (.rs 700705)))))))), (700401, .row 77 (.agg (.pair (.agg (.pair (.int .u16) .str)) (.sl 74 (.agg (.pair (.int .i64) (.pair (.int .i64) (.int .i64)))))))), (700402, .row 65 (.sl 67 (.agg (.pair (.int .i64) (.pair (.agg (.pair (.int .u16) .str)) (.pair (.int .i64) (.int .i64))))))), (700405, .row 3 (.int .i64)), (700701, .row 77 (.agg (.pair (.agg (.pair (.int .u16) .str)) (.sl 74 (.agg (.pair (.int .i64) (.pair (.int .i64) (.int .i64)))))))), (700702, .row 65 (.sl 67 (.agg (.pair (.int .i64) (.pair (.agg (.pair (.int .u16) .str)) (.pair (.int .i64) (.int .i64))))))), (700705, .row 3 (.int .i64))]⟩), (24, ⟨58, 6, [(4, (.ptr 1004 [])), (7, (.ptr 1007 [])), (9, (.ptr 1009 [])), (44, (.val (.int .i64))), (45, (.val (.int .i64)))], [(1004, .box (.agg (.pair (.val (.agg (.pair (.int .i64) (.pair (.int .i64) (.pair (.int .i64) (.pair (.int .i64) (.pair (.int .i64) (.pair (.int .i64) (.int .i64))))))))) (.pair (.rs 700401) (.pair (.rs 700402) (.pair (.val (.int .i64)) (.pair (.val (.int .u64)) (.rs 700405)))))))), (1007, .box (.agg (.pair (.val (.agg (.pair (.int .i64) (.pair (.int .i64) (.pair (.int .i64) (.pair (.int .i64) (.pair (.int .i64) (.pair (.int .i64) (.int .i64))))))))) (.pair (.rs 700701) (.pair (.rs 700702) (.pair (.val (.int .i64)) (.pair (.val (.int .u64)) (.rs 700705)))))))), (1009, .box (.val (.agg (.agg (.pair (.int .i64) (.pair (.int .i64) (.pair (.int .i64) (.pair (.int .i64) (.pair (.int .i64) (.int .u64)))))))))), (700401, .row 77 (.agg (.pair (.agg (.pair (.int .u16) .str)) (.sl 74 (.agg (.pair (.int .i64) (.pair (.int .i64) (.int .i64)))))))), (700402, .row 65 (.sl 67 (.agg (.pair (.int .i64) (.pair (.agg (.pair (.int .u16) .str)) (.pair (.int .i64) (.int .i64))))))), (700405, .row 3 (.int .i64)), (700701, .row 77 (.agg (.pair (.agg (.pair (.int .u16) .str)) (.sl 74 (.agg (.pair (.int .i64) (.pair (.int .i64) (.int .i64)))))))), (700702, .row 65 (.sl 67 (.agg (.pair (.int .i64) (.pair (.agg (.pair (.int .u16) .str)) (.pair (.int .i64) (.int .i64))))))), (700705, .row 3 (.int .i64))]⟩)]⟩
noncomputable def T17 (n : Nat) : Tab := ⟨[e20 n, e15 n, e31 n], []⟩
noncomputable def e17 (n : Nat) : Entry := c17.entry Tryd.prog (T17 n) n
theorem ok17 {W0 : World} (n : Nat) : FnOK Tryd.prog W0 (e17 n) := c17.sound (.cons (ok20 n) (.cons (ok15 n) (.cons (ok31 n) .nil))) n Tryd.func17 (by kernel_rfl) (by kernel_rfl)
noncomputable def f17 (n : Nat) (t : (Int × (Int × (Int × (Int × (Int × Int)))))) (c : (Int × (Int × (Int × (Int × (Int × (Int × Int))))))) : Option (((Int × (Int × (Int × (Int × (Int × (Int × Int)))))) × (List ((Int × ByteArray) × List (Int × (Int × Int))) × (List (List (Int × ((Int × ByteArray) × (Int × Int)))) × (Int × (Int × List Int))))) × Int) := c17.f Tryd.prog (T17 n) n (t, c)
noncomputable def f17_12 (n m : Nat) (x22 : Int) (x23 : Int) (b1002 : (Int × (Int × (Int × (Int × (Int × Int)))))) (b1004a : (Int × (Int × (Int × (Int × (Int × (Int × Int))))))) (b1004bbba : Int) (b1004bbbba : Int) (b1007a : (Int × (Int × (Int × (Int × (Int × (Int × Int))))))) (b1007bbba : Int) (b1007bbbba : Int) (l700401 : List ((Int × ByteArray) × List (Int × (Int × Int)))) (l700402 : List (List (Int × ((Int × ByteArray) × (Int × Int))))) (l700405 : List Int) (l700701 : List ((Int × ByteArray) × List (Int × (Int × Int)))) (l700702 : List (List (Int × ((Int × ByteArray) × (Int × Int))))) (l700705 : List Int) : Option (((Int × (Int × (Int × (Int × (Int × (Int × Int)))))) × (List ((Int × ByteArray) × List (Int × (Int × Int))) × (List (List (Int × ((Int × ByteArray) × (Int × Int)))) × (Int × (Int × List Int))))) × Int) := c17.LL Tryd.prog (T17 n) m 12 ((), (), (), x22, x23) (b1002, (b1004a, ((), ((), (b1004bbba, (b1004bbbba, ()))))), (b1007a, ((), ((), (b1007bbba, (b1007bbbba, ()))))), l700401, l700402, l700405, l700701, l700702, l700705, ())
noncomputable def f17_24 (n m : Nat) (x44 : Int) (x45 : Int) (b1004a : (Int × (Int × (Int × (Int × (Int × (Int × Int))))))) (b1004bbba : Int) (b1004bbbba : Int) (b1007a : (Int × (Int × (Int × (Int × (Int × (Int × Int))))))) (b1007bbba : Int) (b1007bbbba : Int) (b1009 : (Int × (Int × (Int × (Int × (Int × Int)))))) (l700401 : List ((Int × ByteArray) × List (Int × (Int × Int)))) (l700402 : List (List (Int × ((Int × ByteArray) × (Int × Int))))) (l700405 : List Int) (l700701 : List ((Int × ByteArray) × List (Int × (Int × Int)))) (l700702 : List (List (Int × ((Int × ByteArray) × (Int × Int))))) (l700705 : List Int) : Option (((Int × (Int × (Int × (Int × (Int × (Int × Int)))))) × (List ((Int × ByteArray) × List (Int × (Int × Int))) × (List (List (Int × ((Int × ByteArray) × (Int × Int)))) × (Int × (Int × List Int))))) × Int) := c17.LL Tryd.prog (T17 n) m 24 ((), (), (), x44, x45) ((b1004a, ((), ((), (b1004bbba, (b1004bbbba, ()))))), (b1007a, ((), ((), (b1007bbba, (b1007bbbba, ()))))), b1009, l700401, l700402, l700405, l700701, l700702, l700705, ())
theorem f17_12_zero (n : Nat) (x22 : Int) (x23 : Int) (b1002 : (Int × (Int × (Int × (Int × (Int × Int)))))) (b1004a : (Int × (Int × (Int × (Int × (Int × (Int × Int))))))) (b1004bbba : Int) (b1004bbbba : Int) (b1007a : (Int × (Int × (Int × (Int × (Int × (Int × Int))))))) (b1007bbba : Int) (b1007bbbba : Int) (l700401 : List ((Int × ByteArray) × List (Int × (Int × Int)))) (l700402 : List (List (Int × ((Int × ByteArray) × (Int × Int))))) (l700405 : List Int) (l700701 : List ((Int × ByteArray) × List (Int × (Int × Int)))) (l700702 : List (List (Int × ((Int × ByteArray) × (Int × Int))))) (l700705 : List Int) : f17_12 n 0 x22 x23 b1002 b1004a b1004bbba b1004bbbba b1007a b1007bbba b1007bbbba l700401 l700402 l700405 l700701 l700702 l700705 = none := rfl
theorem f17_12_eq (n m : Nat) (x22 : Int) (x23 : Int) (b1002 : (Int × (Int × (Int × (Int × (Int × Int)))))) (b1004a : (Int × (Int × (Int × (Int × (Int × (Int × Int))))))) (b1004bbba : Int) (b1004bbbba : Int) (b1007a : (Int × (Int × (Int × (Int × (Int × (Int × Int))))))) (b1007bbba : Int) (b1007bbbba : Int) (l700401 : List ((Int × ByteArray) × List (Int × (Int × Int)))) (l700402 : List (List (Int × ((Int × ByteArray) × (Int × Int))))) (l700405 : List Int) (l700701 : List ((Int × ByteArray) × List (Int × (Int × Int)))) (l700702 : List (List (Int × ((Int × ByteArray) × (Int × Int))))) (l700705 : List Int) : f17_12 n (m + 1) x22 x23 b1002 b1004a b1004bbba b1004bbbba b1007a b1007bbba b1007bbbba l700401 l700402 l700405 l700701 l700702 l700705 =
  bif decide (x23 < x22) then
   Go.Rf.both ((f15 n x23).bind fun r1 =>
    bif decide ((l700701.length + [(r1, [((7 : Int), b1002.snd.snd.snd.snd.fst, (0 : Int)), ((3 : Int), (0 : Int), (0 : Int)), ((10 : Int), (0 : Int), (0 : Int))])].length) * (48 : Nat) ≤ Go.Rf.maxBytes) then
     f17_12 n m x22 (Go.IntKind.i64.wrap (x23 + (1 : Int))) b1002 b1004a b1004bbba b1004bbbba b1007a b1007bbba b1007bbbba l700401 l700402 l700405 (l700701 ++ [(r1, [((7 : Int), b1002.snd.snd.snd.snd.fst, (0 : Int)), ((3 : Int), (0 : Int), (0 : Int)), ((10 : Int), (0 : Int), (0 : Int))])]) l700702 l700705
    else
     none)
    ((f15 n x23).bind fun r2 =>
    bif decide ((l700701.length + [(r2, [((7 : Int), b1002.snd.snd.snd.snd.fst, (0 : Int)), ((3 : Int), (0 : Int), (0 : Int)), ((10 : Int), (0 : Int), (0 : Int))])].length) * (48 : Nat) ≤ Go.Rf.maxBytes) then
     f17_12 n m x22 (Go.IntKind.i64.wrap (x23 + (1 : Int))) b1002 b1004a b1004bbba b1004bbbba b1007a b1007bbba b1007bbbba l700401 l700402 l700405 (l700701 ++ [(r2, [((7 : Int), b1002.snd.snd.snd.snd.fst, (0 : Int)), ((3 : Int), (0 : Int), (0 : Int)), ((10 : Int), (0 : Int), (0 : Int))])]) l700702 l700705
    else
     none)
  else
   f17_24 n m b1002.snd.fst (0 : Int) b1004a b1004bbba b1004bbbba b1007a b1007bbba b1007bbbba b1002 l700401 l700402 l700405 l700701 l700702 l700705 := by kernel_rfl
theorem f17_24_zero (n : Nat) (x44 : Int) (x45 : Int) (b1004a : (Int × (Int × (Int × (Int × (Int × (Int × Int))))))) (b1004bbba : Int) (b1004bbbba : Int) (b1007a : (Int × (Int × (Int × (Int × (Int × (Int × Int))))))) (b1007bbba : Int) (b1007bbbba : Int) (b1009 : (Int × (Int × (Int × (Int × (Int × Int)))))) (l700401 : List ((Int × ByteArray) × List (Int × (Int × Int)))) (l700402 : List (List (Int × ((Int × ByteArray) × (Int × Int))))) (l700405 : List Int) (l700701 : List ((Int × ByteArray) × List (Int × (Int × Int)))) (l700702 : List (List (Int × ((Int × ByteArray) × (Int × Int))))) (l700705 : List Int) : f17_24 n 0 x44 x45 b1004a b1004bbba b1004bbbba b1007a b1007bbba b1007bbbba b1009 l700401 l700402 l700405 l700701 l700702 l700705 = none := rfl
theorem f17_24_eq (n m : Nat) (x44 : Int) (x45 : Int) (b1004a : (Int × (Int × (Int × (Int × (Int × (Int × Int))))))) (b1004bbba : Int) (b1004bbbba : Int) (b1007a : (Int × (Int × (Int × (Int × (Int × (Int × Int))))))) (b1007bbba : Int) (b1007bbbba : Int) (b1009 : (Int × (Int × (Int × (Int × (Int × Int)))))) (l700401 : List ((Int × ByteArray) × List (Int × (Int × Int)))) (l700402 : List (List (Int × ((Int × ByteArray) × (Int × Int))))) (l700405 : List Int) (l700701 : List ((Int × ByteArray) × List (Int × (Int × Int)))) (l700702 : List (List (Int × ((Int × ByteArray) × (Int × Int))))) (l700705 : List Int) : f17_24 n (m + 1) x44 x45 b1004a b1004bbba b1004bbbba b1007a b1007bbba b1007bbbba b1009 l700401 l700402 l700405 l700701 l700702 l700705 =
  bif decide (x45 < x44) then
   (f31 n b1009 x45).bind fun r1 =>
   bif decide ((l700702.length + [r1].length) * (24 : Nat) ≤ Go.Rf.maxBytes) then
    f17_24 n m x44 (Go.IntKind.i64.wrap (x45 + (1 : Int))) b1004a b1004bbba b1004bbbba b1007a b1007bbba b1007bbbba b1009 l700401 l700402 l700405 l700701 (l700702 ++ [r1]) l700705
   else
    none
  else
   some ((b1007a, l700701, l700702, b1007bbba, b1007bbbba, l700705), (0 : Int)) := by kernel_rfl
theorem f17_eq (n : Nat) (t : (Int × (Int × (Int × (Int × (Int × Int)))))) (c : (Int × (Int × (Int × (Int × (Int × (Int × Int))))))) : f17 n t c =
  (f20 n t).bind fun r1 =>
  bif r1 != (0 : Int) then
   some ((((0 : Int), (0 : Int), (0 : Int), (0 : Int), (0 : Int), (0 : Int), (0 : Int)), [], [], (0 : Int), (0 : Int), []), r1)
  else
   f17_12 n n t.snd.snd.snd.fst (0 : Int) t (((0 : Int), (0 : Int), (0 : Int), (0 : Int), (0 : Int), (0 : Int), (0 : Int))) (0 : Int) (0 : Int) c (0 : Int) t.snd.snd.snd.snd.snd [] [] [] [] [] [] := by kernel_rfl
/- convoy/convoylaw29.awake -/
noncomputable def c8 : Cfg := ⟨8, Tryd.f8, [], [.bool], 6, [], []⟩
noncomputable def T8 (n : Nat) : Tab := ⟨[e17 n, e15 n], []⟩
noncomputable def e8 (n : Nat) : Entry := c8.entry Tryd.prog (T8 n) n
theorem ok8 {W0 : World} (n : Nat) : FnOK Tryd.prog W0 (e8 n) := c8.sound (.cons (ok17 n) (.cons (ok15 n) .nil)) n Tryd.func8 (by kernel_rfl) (by kernel_rfl)
noncomputable def f8 (n : Nat) : Option (Bool) := c8.f Tryd.prog (T8 n) n ()
theorem f8_eq (n : Nat) : f8 n =
  (f17 n ((1 : Int), (2 : Int), (1 : Int), (1 : Int), (0 : Int), (0 : Int)) ((0 : Int), (0 : Int), (0 : Int), (0 : Int), (1 : Int), (1 : Int), (0 : Int))).bind fun r1 =>
  bif r1.snd == (0 : Int) then
   bif ↑(List.length r1.fst.snd.snd.fst) == (2 : Int) then
    bif decide ((0 : Int) ≤ (1 : Int) ∧ (1 : Int) < ↑(List.length r1.fst.snd.snd.fst)) then
     bif ↑(List.length (List.getD r1.fst.snd.snd.fst (1 : Nat) [])) == (1 : Int) then
      bif decide ((0 : Int) ≤ (1 : Int) ∧ (1 : Int) < ↑(List.length r1.fst.snd.snd.fst)) then
       bif decide ((0 : Int) ≤ (0 : Int) ∧ (0 : Int) < ↑(List.length (List.getD r1.fst.snd.snd.fst (1 : Nat) []))) then
        (f15 n (0 : Int)).bind fun r2 =>
        some ((List.getD (List.getD r1.fst.snd.snd.fst (1 : Nat) []) (0 : Nat) ((0 : Int), ((0 : Int), ByteArray.empty), (0 : Int), (0 : Int))).snd.fst.fst == r2.fst && (List.getD (List.getD r1.fst.snd.snd.fst (1 : Nat) []) (0 : Nat) ((0 : Int), ((0 : Int), ByteArray.empty), (0 : Int), (0 : Int))).snd.fst.snd == r2.snd)
       else
        none
      else
       none
     else
      some false
    else
     none
   else
    some false
  else
   some false := by kernel_rfl
/- convoy/story.Kind -/
noncomputable def c6 : Cfg := ⟨6, Tryd.f6, [.str], [(.int .i64), .bool], 4, [], [(4, ⟨14, 4, [(0, (.val .str)), (4, (.val (.int .i64)))], []⟩)]⟩
noncomputable def T6 (n : Nat) : Tab := ⟨[e9 n], []⟩
noncomputable def e6 (n : Nat) : Entry := c6.entry Tryd.prog (T6 n) n
theorem ok6 {W0 : World} (n : Nat) : FnOK Tryd.prog W0 (e6 n) := c6.sound (.cons (ok9 n) .nil) n Tryd.func6 (by kernel_rfl) (by kernel_rfl)
noncomputable def f6 (n : Nat) (name : ByteArray) : Option (Int × Bool) := c6.f Tryd.prog (T6 n) n name
noncomputable def f6_4 (n m : Nat) (name : ByteArray) (kind : Int) : Option (Int × Bool) := c6.LL Tryd.prog (T6 n) m 4 (name, kind) ()
theorem f6_4_zero (n : Nat) (name : ByteArray) (kind : Int) : f6_4 n 0 name kind = none := rfl
theorem f6_4_eq (n m : Nat) (name : ByteArray) (kind : Int) : f6_4 n (m + 1) name kind =
  bif decide (kind ≤ (6 : Int)) then
   (f9 n kind).bind fun r1 =>
   bif ByteArray.toList r1 == name.toList then
    some (kind, true)
   else
    f6_4 n m name (Go.IntKind.i64.wrap (kind + (1 : Int)))
  else
   some ((0 : Int), false) := by kernel_rfl
theorem f6_eq (n : Nat) (name : ByteArray) : f6 n name =
  f6_4 n n name (1 : Int) := by kernel_rfl
noncomputable def s7x0 : ByteArray := { data := #[104, 101, 114, 100] }
noncomputable def s7x1 : ByteArray := { data := #[116, 114, 105, 99, 107, 108, 101] }
noncomputable def s7x2 : ByteArray := { data := #[115, 116, 111, 114, 109] }
noncomputable def s7x3 : ByteArray := { data := #[108, 101, 97, 118, 101] }
noncomputable def s7x4 : ByteArray := { data := #[102, 111, 114, 103, 101, 116] }
noncomputable def s7x5 : ByteArray := { data := #[98, 97, 116, 99, 104] }
/- convoy/convoyref29.Name -/
noncomputable def c7 : Cfg := ⟨7, Tryd.f7, [(.int .i64)], [.str], 4, [], []⟩
noncomputable def T7 (_ : Nat) : Tab := ⟨[], []⟩
noncomputable def e7 (n : Nat) : Entry := c7.entry Tryd.prog (T7 n) n
theorem ok7 {W0 : World} (n : Nat) : FnOK Tryd.prog W0 (e7 n) := c7.sound .nil n Tryd.func7 (by kernel_rfl) (by kernel_rfl)
noncomputable def f7 (n : Nat) (kind : Int) : Option (ByteArray) := c7.f Tryd.prog (T7 n) n kind
theorem f7_eq (n : Nat) (kind : Int) : f7 n kind =
  bif kind == (1 : Int) then
   some s7x0
  else
   bif kind == (2 : Int) then
    some s7x1
   else
    bif kind == (3 : Int) then
     some s7x2
    else
     bif kind == (4 : Int) then
      some s7x3
     else
      bif kind == (5 : Int) then
       some s7x4
      else
       bif kind == (6 : Int) then
        some s7x5
       else
        some ByteArray.empty := by kernel_rfl
/- convoy/convoylaw29.StoryNames -/
noncomputable def c3 : Cfg := ⟨3, Tryd.f3, [(.int .i64), .str], [.bool], 6, [], [(8, ⟨42, 6, [(0, (.val (.int .i64))), (1, (.val .str)), (5, (.val (.int .i64))), (6, (.val .bool)), (7, (.val (.int .i64))), (8, (.val (.int .i64)))], []⟩)]⟩
noncomputable def T3 (n : Nat) : Tab := ⟨[e6 n, e7 n, e8 n, e9 n], []⟩
noncomputable def e3 (n : Nat) : Entry := c3.entry Tryd.prog (T3 n) n
theorem ok3 {W0 : World} (n : Nat) : FnOK Tryd.prog W0 (e3 n) := c3.sound (.cons (ok6 n) (.cons (ok7 n) (.cons (ok8 n) (.cons (ok9 n) .nil)))) n Tryd.func3 (by kernel_rfl) (by kernel_rfl)
noncomputable def f3 (n : Nat) (kind : Int) (name : ByteArray) : Option (Bool) := c3.f Tryd.prog (T3 n) n (kind, name)
noncomputable def f3_8 (n m : Nat) (kind : Int) (name : ByteArray) (k : Int) (ok : Bool) (want : Int) (x8 : Int) : Option (Bool) := c3.LL Tryd.prog (T3 n) m 8 (kind, name, k, ok, want, x8) ()
theorem f3_8_zero (n : Nat) (kind : Int) (name : ByteArray) (k : Int) (ok : Bool) (want : Int) (x8 : Int) : f3_8 n 0 kind name k ok want x8 = none := rfl
theorem f3_8_eq (n m : Nat) (kind : Int) (name : ByteArray) (k : Int) (ok : Bool) (want : Int) (x8 : Int) : f3_8 n (m + 1) kind name k ok want x8 =
  bif decide (x8 ≤ (6 : Int)) then
   (f7 n x8).bind fun r1 =>
   bif ByteArray.toList r1 == name.toList then
    f3_8 n m kind name k ok x8 (Go.IntKind.i64.wrap (x8 + (1 : Int)))
   else
    f3_8 n m kind name k ok want (Go.IntKind.i64.wrap (x8 + (1 : Int)))
  else
   (f8 n).bind fun r2 =>
   bif r2 then
    (f9 n kind).bind fun r3 =>
    (f7 n kind).bind fun r4 =>
    bif ByteArray.toList r3 == ByteArray.toList r4 then
     bif k == want then
      some (ok == decide (want > (0 : Int)))
     else
      some false
    else
     some false
   else
    some false := by kernel_rfl
theorem f3_eq (n : Nat) (kind : Int) (name : ByteArray) : f3 n kind name =
  (f6 n name).bind fun r1 =>
  f3_8 n n kind name r1.fst r1.snd (0 : Int) (1 : Int) := by kernel_rfl
end Go.Proofs.YtaakmifjkobkgaaDoor
