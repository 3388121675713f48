/- What functions compute: printed, and checked by the kernel. -/
import Derived.Test.YthpcpofcadpijaaDoorGe
namespace Go.Proofs.YthpcpofcadpijaaDoor
open Go.Rf
noncomputable def s48x0 : ByteArray := { data := #[99, 97, 108, 108] }
noncomputable def s48x1 : ByteArray := { data := #[115, 116, 97, 114, 116] }
noncomputable def s48x2 : ByteArray := { data := #[97, 119, 97, 105, 116] }
noncomputable def s48x3 : ByteArray := { data := #[102, 111, 114, 103, 101, 116] }
noncomputable def s48x4 : ByteArray := { data := #[99, 97, 110, 99, 101, 108] }
noncomputable def s48x5 : ByteArray := { data := #[111, 112, 101, 110] }
noncomputable def s48x6 : ByteArray := { data := #[115, 104, 117, 116] }
noncomputable def s48x7 : ByteArray := { data := #[115, 108, 101, 101, 112] }
noncomputable def s48x8 : ByteArray := { data := #[116, 111, 107, 101, 110] }
/- convoy/convoyref21.FormOf -/
noncomputable def c48 : Cfg := ⟨48, Tryd.f48, [(.int .i64)], [(.agg (.pair .str (.pair .bool (.pair .bool (.pair .bool (.pair (.int .i64) (.int .i64)))))))], 5, [], []⟩
noncomputable def T48 (_ : Nat) : Tab := ⟨[], []⟩
noncomputable def e48 (n : Nat) : Entry := c48.entry Tryd.prog (T48 n) n
theorem ok48 {W0 : World} (n : Nat) : FnOK Tryd.prog W0 (e48 n) := c48.sound .nil n Tryd.func48 (by kernel_rfl) (by kernel_rfl)
noncomputable def f48 (n : Nat) (op : Int) : Option ((ByteArray × (Bool × (Bool × (Bool × (Int × Int)))))) := c48.f Tryd.prog (T48 n) n op
theorem f48_eq (n : Nat) (op : Int) : f48 n op =
  bif op == (1 : Int) then
   some ((s48x0, true, false, false, (0 : Int), (0 : Int)))
  else
   bif op == (2 : Int) then
    some ((s48x1, true, true, false, (0 : Int), (0 : Int)))
   else
    bif op == (3 : Int) then
     some ((s48x2, false, true, false, (0 : Int), (0 : Int)))
    else
     bif op == (4 : Int) then
      some ((s48x3, true, false, false, (0 : Int), (0 : Int)))
     else
      bif op == (5 : Int) then
       some ((s48x4, false, false, true, (1 : Int), (1024 : Int)))
      else
       bif op == (6 : Int) then
        some ((s48x5, false, false, true, (0 : Int), (255 : Int)))
       else
        bif op == (7 : Int) then
         some ((s48x6, false, false, true, (0 : Int), (255 : Int)))
        else
         bif op == (8 : Int) then
          some ((s48x7, false, false, true, (0 : Int), (4611686018427387904 : Int)))
         else
          bif op == (9 : Int) then
           some ((s48x8, false, false, true, (0 : Int), (1024 : Int)))
          else
           some ((ByteArray.empty, false, false, false, (0 : Int), (0 : Int))) := by kernel_rfl
/- convoy/convoyref21.May -/
noncomputable def c32 : Cfg := ⟨32, Tryd.f32, [(.agg (.pair (.int .i64) (.pair (.agg (.pair (.int .u16) .str)) (.pair (.int .i64) (.int .i64)))))], [.bool], 7, [6, 8], [(13, ⟨78, 7, [(1, (.ptr 1001 [])), (3, (.ptr 1003 []))], [(1001, .box (.val (.agg (.pair (.int .i64) (.pair (.agg (.pair (.int .u16) .str)) (.pair (.int .i64) (.int .i64))))))), (1003, .box (.val (.agg (.pair .str (.pair .bool (.pair .bool (.pair .bool (.pair (.int .i64) (.int .i64)))))))))]⟩), (17, ⟨78, 7, [(1, (.ptr 1001 [])), (3, (.ptr 1003 []))], [(1001, .box (.val (.agg (.pair (.int .i64) (.pair (.agg (.pair (.int .u16) .str)) (.pair (.int .i64) (.int .i64))))))), (1003, .box (.val (.agg (.pair .str (.pair .bool (.pair .bool (.pair .bool (.pair (.int .i64) (.int .i64)))))))))]⟩)]⟩
noncomputable def T32 (n : Nat) : Tab := ⟨[e48 n], []⟩
noncomputable def e32 (n : Nat) : Entry := c32.entry Tryd.prog (T32 n) n
theorem ok32 {W0 : World} (n : Nat) : FnOK Tryd.prog W0 (e32 n) := c32.sound (.cons (ok48 n) .nil) n Tryd.func32 (by kernel_rfl) (by kernel_rfl)
noncomputable def f32 (n : Nat) (d : (Int × ((Int × ByteArray) × (Int × Int)))) : Option (Bool) := c32.f Tryd.prog (T32 n) n d
noncomputable def f32_13 (n m : Nat) (b1001 : (Int × ((Int × ByteArray) × (Int × Int)))) (b1003 : (ByteArray × (Bool × (Bool × (Bool × (Int × Int)))))) : Option (Bool) := c32.LL Tryd.prog (T32 n) m 13 ((), ()) (b1001, b1003, ())
noncomputable def f32_17 (n m : Nat) (b1001 : (Int × ((Int × ByteArray) × (Int × Int)))) (b1003 : (ByteArray × (Bool × (Bool × (Bool × (Int × Int)))))) : Option (Bool) := c32.LL Tryd.prog (T32 n) m 17 ((), ()) (b1001, b1003, ())
theorem f32_13_zero (n : Nat) (b1001 : (Int × ((Int × ByteArray) × (Int × Int)))) (b1003 : (ByteArray × (Bool × (Bool × (Bool × (Int × Int)))))) : f32_13 n 0 b1001 b1003 = none := rfl
theorem f32_13_eq (n m : Nat) (b1001 : (Int × ((Int × ByteArray) × (Int × Int)))) (b1003 : (ByteArray × (Bool × (Bool × (Bool × (Int × Int)))))) : f32_13 n (m + 1) b1001 b1003 =
  bif b1003.snd.snd.fst then
   bif decide (b1001.snd.snd.snd < (0 : Int)) then
    some false
   else
    bif decide (b1001.snd.snd.snd ≥ (16 : Int)) then
     some false
    else
     bif !b1003.snd.snd.fst then
      bif b1001.snd.snd.snd != (0 : Int) then
       some false
      else
       f32_17 n m b1001 b1003
     else
      f32_17 n m b1001 b1003
  else
   bif !b1003.snd.snd.fst then
    bif b1001.snd.snd.snd != (0 : Int) then
     some false
    else
     f32_17 n m b1001 b1003
   else
    f32_17 n m b1001 b1003 := by kernel_rfl
theorem f32_17_zero (n : Nat) (b1001 : (Int × ((Int × ByteArray) × (Int × Int)))) (b1003 : (ByteArray × (Bool × (Bool × (Bool × (Int × Int)))))) : f32_17 n 0 b1001 b1003 = none := rfl
theorem f32_17_eq (n m : Nat) (b1001 : (Int × ((Int × ByteArray) × (Int × Int)))) (b1003 : (ByteArray × (Bool × (Bool × (Bool × (Int × Int)))))) : f32_17 n (m + 1) b1001 b1003 =
  bif b1003.snd.snd.snd.fst then
   bif decide (b1001.snd.snd.fst ≥ b1003.snd.snd.snd.snd.fst) then
    bif decide (b1001.snd.snd.fst ≤ b1003.snd.snd.snd.snd.snd) then
     some true
    else
     bif !b1003.snd.snd.snd.fst then
      some (b1001.snd.snd.fst == (0 : Int))
     else
      some false
   else
    bif !b1003.snd.snd.snd.fst then
     some (b1001.snd.snd.fst == (0 : Int))
    else
     some false
  else
   bif !b1003.snd.snd.snd.fst then
    some (b1001.snd.snd.fst == (0 : Int))
   else
    some false := by kernel_rfl
theorem f32_eq (n : Nat) (d : (Int × ((Int × ByteArray) × (Int × Int)))) : f32 n d =
  (f48 n d.fst).bind fun r1 =>
  bif ByteArray.toList r1.fst == ByteArray.empty.toList then
   some false
  else
   bif r1.snd.fst then
    bif decide (↑(ByteArray.size d.snd.fst.snd) > (64 : Int)) then
     some false
    else
     bif !r1.snd.fst then
      bif !(d.snd.fst.fst == (0 : Int) && d.snd.fst.snd == ByteArray.empty) then
       some false
      else
       f32_13 n n d r1
     else
      f32_13 n n d r1
   else
    bif !r1.snd.fst then
     bif !(d.snd.fst.fst == (0 : Int) && d.snd.fst.snd == ByteArray.empty) then
      some false
     else
      f32_13 n n d r1
    else
     f32_13 n n d r1 := by kernel_rfl
/- convoy/convoyref21.Check -/
noncomputable def c10 : Cfg := ⟨10, Tryd.f10, [(.sl 94 (.agg (.pair (.int .i64) (.pair (.agg (.pair (.int .u16) .str)) (.pair (.int .i64) (.int .i64))))))], [(.int .i64), (.int .i64)], 5, [], [(8, ⟨21, 5, [(0, (.val (.sl 94 (.agg (.pair (.int .i64) (.pair (.agg (.pair (.int .u16) .str)) (.pair (.int .i64) (.int .i64)))))))), (4, (.val (.int .i64)))], []⟩)]⟩
noncomputable def T10 (n : Nat) : Tab := ⟨[e32 n], []⟩
noncomputable def e10 (n : Nat) : Entry := c10.entry Tryd.prog (T10 n) n
theorem ok10 {W0 : World} (n : Nat) : FnOK Tryd.prog W0 (e10 n) := c10.sound (.cons (ok32 n) .nil) n Tryd.func10 (by kernel_rfl) (by kernel_rfl)
noncomputable def f10 (n : Nat) (l : List (Int × ((Int × ByteArray) × (Int × Int)))) : Option (Int × Int) := c10.f Tryd.prog (T10 n) n l
noncomputable def f10_8 (n m : Nat) (l : List (Int × ((Int × ByteArray) × (Int × Int)))) (i : Int) : Option (Int × Int) := c10.LL Tryd.prog (T10 n) m 8 (l, i) ()
theorem f10_8_zero (n : Nat) (l : List (Int × ((Int × ByteArray) × (Int × Int)))) (i : Int) : f10_8 n 0 l i = none := rfl
theorem f10_8_eq (n m : Nat) (l : List (Int × ((Int × ByteArray) × (Int × Int)))) (i : Int) : f10_8 n (m + 1) l i =
  bif decide (i < ↑l.length) then
   bif decide ((0 : Int) ≤ i ∧ i < ↑l.length) then
    (f32 n (l.getD i.toNat ((0 : Int), ((0 : Int), ByteArray.empty), (0 : Int), (0 : Int)))).bind fun r1 =>
    bif !r1 then
     some (i, (210 : Int))
    else
     f10_8 n m l (Go.IntKind.i64.wrap (i + (1 : Int)))
   else
    none
  else
   some ((0 : Int), (0 : Int)) := by kernel_rfl
theorem f10_eq (n : Nat) (l : List (Int × ((Int × ByteArray) × (Int × Int)))) : f10 n l =
  bif decide (↑l.length > (256 : Int)) then
   some ((256 : Int), (3 : Int))
  else
   f10_8 n n l (0 : Int) := by kernel_rfl
/- convoy/convoylaw21.ref -/
noncomputable def c11 : Cfg := ⟨11, Tryd.f11, [(.sl 29 (.agg (.pair (.int .i64) (.pair (.agg (.pair (.int .u16) .str)) (.pair (.int .i64) (.int .i64))))))], [(.sl 94 (.agg (.pair (.int .i64) (.pair (.agg (.pair (.int .u16) .str)) (.pair (.int .i64) (.int .i64))))))], 6, [], [(6, ⟨45, 6, [(0, (.val (.sl 29 (.agg (.pair (.int .i64) (.pair (.agg (.pair (.int .u16) .str)) (.pair (.int .i64) (.int .i64)))))))), (3, (.rs 1005)), (4, (.val (.int .i64)))], [(1005, .row 94 (.agg (.pair (.int .i64) (.pair (.agg (.pair (.int .u16) .str)) (.pair (.int .i64) (.int .i64))))))]⟩)]⟩
noncomputable def T11 (_ : Nat) : Tab := ⟨[], []⟩
noncomputable def e11 (n : Nat) : Entry := c11.entry Tryd.prog (T11 n) n
theorem ok11 {W0 : World} (n : Nat) : FnOK Tryd.prog W0 (e11 n) := c11.sound .nil n Tryd.func11 (by kernel_rfl) (by kernel_rfl)
noncomputable def f11 (n : Nat) (l : List (Int × ((Int × ByteArray) × (Int × Int)))) : Option (List (Int × ((Int × ByteArray) × (Int × Int)))) := c11.f Tryd.prog (T11 n) n l
noncomputable def f11_6 (n m : Nat) (l : List (Int × ((Int × ByteArray) × (Int × Int)))) (i : Int) (l1005 : List (Int × ((Int × ByteArray) × (Int × Int)))) : Option (List (Int × ((Int × ByteArray) × (Int × Int)))) := c11.LL Tryd.prog (T11 n) m 6 (l, (), i) (l1005, ())
theorem f11_6_zero (n : Nat) (l : List (Int × ((Int × ByteArray) × (Int × Int)))) (i : Int) (l1005 : List (Int × ((Int × ByteArray) × (Int × Int)))) : f11_6 n 0 l i l1005 = none := rfl
theorem f11_6_eq (n m : Nat) (l : List (Int × ((Int × ByteArray) × (Int × Int)))) (i : Int) (l1005 : List (Int × ((Int × ByteArray) × (Int × Int)))) : f11_6 n (m + 1) l i l1005 =
  bif decide (i < ↑l.length) then
   bif decide ((0 : Int) ≤ i ∧ i < ↑l.length) then
    bif decide ((0 : Int) ≤ i ∧ i < ↑l.length) then
     bif decide ((0 : Int) ≤ i ∧ i < ↑l.length) then
      bif decide ((0 : Int) ≤ i ∧ i < ↑l.length) then
       bif decide ((0 : Int) ≤ i ∧ i < ↑l.length) then
        bif decide ((l1005.length + [l.getD i.toNat ((0 : Int), ((0 : Int), ByteArray.empty), (0 : Int), (0 : Int))].length) * (48 : Nat) ≤ Go.Rf.maxBytes) then
         f11_6 n m l (Go.IntKind.i64.wrap (i + (1 : Int))) (l1005 ++ [l.getD i.toNat ((0 : Int), ((0 : Int), ByteArray.empty), (0 : Int), (0 : Int))])
        else
         none
       else
        none
      else
       none
     else
      none
    else
     none
   else
    none
  else
   some l1005 := by kernel_rfl
theorem f11_eq (n : Nat) (l : List (Int × ((Int × ByteArray) × (Int × Int)))) : f11 n l =
  f11_6 n n l (0 : Int) [] := by kernel_rfl
/- convoy/convoylaw21.want -/
noncomputable def c33 : Cfg := ⟨33, Tryd.f33, [.bool, (.int .i64)], [(.int .i64)], 3, [], []⟩
noncomputable def T33 (_ : Nat) : Tab := ⟨[], []⟩
noncomputable def e33 (n : Nat) : Entry := c33.entry Tryd.prog (T33 n) n
theorem ok33 {W0 : World} (n : Nat) : FnOK Tryd.prog W0 (e33 n) := c33.sound .nil n Tryd.func33 (by kernel_rfl) (by kernel_rfl)
noncomputable def f33 (n : Nat) (ok : Bool) (e : Int) : Option (Int) := c33.f Tryd.prog (T33 n) n (ok, e)
theorem f33_eq (n : Nat) (ok : Bool) (e : Int) : f33 n ok e =
  bif ok then
   some (0 : Int)
  else
   some e := by kernel_rfl
/- convoy/convoyref03.May -/
noncomputable def c68 : Cfg := ⟨68, Tryd.f68, [(.agg (.pair (.int .i64) (.pair (.int .i64) (.int .i64))))], [.bool], 6, [], []⟩
noncomputable def T68 (_ : Nat) : Tab := ⟨[], []⟩
noncomputable def e68 (n : Nat) : Entry := c68.entry Tryd.prog (T68 n) n
theorem ok68 {W0 : World} (n : Nat) : FnOK Tryd.prog W0 (e68 n) := c68.sound .nil n Tryd.func68 (by kernel_rfl) (by kernel_rfl)
noncomputable def f68 (n : Nat) (f : (Int × (Int × Int))) : Option (Bool) := c68.f Tryd.prog (T68 n) n f
theorem f68_eq (n : Nat) (f : (Int × (Int × Int))) : f68 n f =
  bif f.fst == (0 : Int) then
   some (f.fst == (0 : Int) && (f.snd.fst == (0 : Int) && f.snd.snd == (0 : Int)))
  else
   bif f.fst == (1 : Int) then
    bif f.fst == (1 : Int) then
     some (decide (f.snd.snd ≥ (1 : Int)))
    else
     bif f.fst == (3 : Int) then
      bif f.fst == (3 : Int) then
       bif f.snd.fst == (0 : Int) then
        some (f.snd.snd == (0 : Int))
       else
        some false
      else
       bif f.fst == (5 : Int) then
        bif f.snd.fst == (0 : Int) then
         some (decide (f.snd.snd ≥ (1 : Int)))
        else
         some false
       else
        some false
     else
      bif f.fst == (4 : Int) then
       bif f.snd.fst == (0 : Int) then
        some (f.snd.snd == (0 : Int))
       else
        some false
      else
       bif f.fst == (5 : Int) then
        bif f.snd.fst == (0 : Int) then
         some (decide (f.snd.snd ≥ (1 : Int)))
        else
         some false
       else
        some false
   else
    bif f.fst == (2 : Int) then
     some (decide (f.snd.snd ≥ (1 : Int)))
    else
     bif f.fst == (3 : Int) then
      bif f.fst == (3 : Int) then
       bif f.snd.fst == (0 : Int) then
        some (f.snd.snd == (0 : Int))
       else
        some false
      else
       bif f.fst == (5 : Int) then
        bif f.snd.fst == (0 : Int) then
         some (decide (f.snd.snd ≥ (1 : Int)))
        else
         some false
       else
        some false
     else
      bif f.fst == (4 : Int) then
       bif f.snd.fst == (0 : Int) then
        some (f.snd.snd == (0 : Int))
       else
        some false
      else
       bif f.fst == (5 : Int) then
        bif f.snd.fst == (0 : Int) then
         some (decide (f.snd.snd ≥ (1 : Int)))
        else
         some false
       else
        some false := by kernel_rfl
/- convoy/convoyref03.Right -/
noncomputable def c49 : Cfg := ⟨49, Tryd.f49, [(.int .i64), (.agg (.pair (.int .i64) (.pair (.int .i64) (.int .i64))))], [.bool], 4, [], []⟩
noncomputable def T49 (n : Nat) : Tab := ⟨[e68 n], []⟩
noncomputable def e49 (n : Nat) : Entry := c49.entry Tryd.prog (T49 n) n
theorem ok49 {W0 : World} (n : Nat) : FnOK Tryd.prog W0 (e49 n) := c49.sound (.cons (ok68 n) .nil) n Tryd.func49 (by kernel_rfl) (by kernel_rfl)
noncomputable def f49 (n : Nat) (value : Int) (f : (Int × (Int × Int))) : Option (Bool) := c49.f Tryd.prog (T49 n) n (value, f)
theorem f49_eq (n : Nat) (value : Int) (f : (Int × (Int × Int))) : f49 n value f =
  (f68 n f).bind fun r1 =>
  bif r1 then
   bif f.fst == (0 : Int) && (f.snd.fst == (0 : Int) && f.snd.snd == (0 : Int)) then
    some true
   else
    some (value == (0 : Int))
  else
   some false := by kernel_rfl
/- (convoy/convoylaw21.state).may -/
noncomputable def c34 : Cfg := ⟨34, Tryd.f34, [(.agg (.pair (.sl 29 (.agg (.pair (.int .i64) (.pair (.agg (.pair (.int .u16) .str)) (.pair (.int .i64) (.int .i64)))))) (.pair (.int .i64) (.pair (.int .i64) (.pair (.sl 48 (.agg (.pair (.int .i64) (.pair (.int .i64) (.pair (.agg (.pair (.int .i64) (.agg (.pair (.int .i64) (.pair (.int .i64) (.int .i64)))))) (.int .i64)))))) (.pair (.arr 16 (.int .i64)) (.pair (.arr 16 (.int .i64)) (.arr 16 (.agg (.pair (.int .i64) (.pair (.int .i64) (.pair (.agg (.pair (.int .i64) (.agg (.pair (.int .i64) (.pair (.int .i64) (.int .i64)))))) (.int .i64))))))))))))), (.agg (.pair (.int .i64) (.pair (.int .i64) (.pair (.agg (.pair (.int .i64) (.agg (.pair (.int .i64) (.pair (.int .i64) (.int .i64)))))) (.int .i64)))))], [.bool], 6, [], []⟩
noncomputable def T34 (n : Nat) : Tab := ⟨[e49 n], []⟩
noncomputable def e34 (n : Nat) : Entry := c34.entry Tryd.prog (T34 n) n
theorem ok34 {W0 : World} (n : Nat) : FnOK Tryd.prog W0 (e34 n) := c34.sound (.cons (ok49 n) .nil) n Tryd.func34 (by kernel_rfl) (by kernel_rfl)
noncomputable def f34 (n : Nat) (s : (List (Int × ((Int × ByteArray) × (Int × Int))) × (Int × (Int × (List (Int × (Int × ((Int × (Int × (Int × Int))) × Int))) × (List Int × (List Int × List (Int × (Int × ((Int × (Int × (Int × Int))) × Int)))))))))) (g : (Int × (Int × ((Int × (Int × (Int × Int))) × Int)))) : Option (Bool) := c34.f Tryd.prog (T34 n) n (s, g)
theorem f34_eq (n : Nat) (s : (List (Int × ((Int × ByteArray) × (Int × Int))) × (Int × (Int × (List (Int × (Int × ((Int × (Int × (Int × Int))) × Int))) × (List Int × (List Int × List (Int × (Int × ((Int × (Int × (Int × Int))) × Int)))))))))) (g : (Int × (Int × ((Int × (Int × (Int × Int))) × Int)))) : f34 n s g =
  bif decide (g.fst ≥ (0 : Int)) then
   bif decide (g.fst < ↑(List.length s.fst)) then
    bif decide (g.snd.fst ≥ (0 : Int)) then
     bif decide (g.snd.fst ≤ (6 : Int)) then
      bif decide (g.snd.snd.snd ≥ (0 : Int)) then
       bif decide (g.snd.snd.snd ≤ (4611686018427387904 : Int)) then
        (f49 n g.snd.snd.fst.fst g.snd.snd.fst.snd).bind fun r1 =>
        some r1
       else
        some false
      else
       some false
     else
      some false
    else
     some false
   else
    some false
  else
   some false := by kernel_rfl
/- convoy/tick.Is -/
noncomputable def c50 : Cfg := ⟨50, Tryd.f50, [(.int .i64)], [.bool], 4, [], []⟩
noncomputable def T50 (_ : Nat) : Tab := ⟨[], []⟩
noncomputable def e50 (n : Nat) : Entry := c50.entry Tryd.prog (T50 n) n
theorem ok50 {W0 : World} (n : Nat) : FnOK Tryd.prog W0 (e50 n) := c50.sound .nil n Tryd.func50 (by kernel_rfl) (by kernel_rfl)
noncomputable def f50 (n : Nat) (t : Int) : Option (Bool) := c50.f Tryd.prog (T50 n) n t
theorem f50_eq (n : Nat) (t : Int) : f50 n t =
  bif decide (t ≥ (0 : Int)) then
   some (decide (t ≤ (4611686018427387904 : Int)))
  else
   some false := by kernel_rfl
/- convoy/client.may -/
noncomputable def c37 : Cfg := ⟨37, Tryd.f37, [(.agg (.pair (.int .i64) (.pair (.int .i64) (.pair (.agg (.pair (.int .i64) (.agg (.pair (.int .i64) (.pair (.int .i64) (.int .i64)))))) (.int .i64)))))], [.bool], 4, [], []⟩
noncomputable def T37 (n : Nat) : Tab := ⟨[e50 n], []⟩
noncomputable def e37 (n : Nat) : Entry := c37.entry Tryd.prog (T37 n) n
theorem ok37 {W0 : World} (n : Nat) : FnOK Tryd.prog W0 (e37 n) := c37.sound (.cons (ok50 n) .nil) n Tryd.func37 (by kernel_rfl) (by kernel_rfl)
noncomputable def f37 (n : Nat) (g : (Int × (Int × ((Int × (Int × (Int × Int))) × Int)))) : Option (Bool) := c37.f Tryd.prog (T37 n) n g
theorem f37_eq (n : Nat) (g : (Int × (Int × ((Int × (Int × (Int × Int))) × Int)))) : f37 n g =
  bif decide (g.snd.fst ≥ (0 : Int)) then
   bif decide (g.snd.fst ≤ (6 : Int)) then
    (f50 n g.snd.snd.snd).bind fun r1 =>
    some r1
   else
    some false
  else
   some false := by kernel_rfl
/- convoy/fail.Check -/
noncomputable def c51 : Cfg := ⟨51, Tryd.f51, [(.agg (.pair (.int .i64) (.pair (.int .i64) (.int .i64))))], [(.int .i64)], 6, [], []⟩
noncomputable def T51 (_ : Nat) : Tab := ⟨[], []⟩
noncomputable def e51 (n : Nat) : Entry := c51.entry Tryd.prog (T51 n) n
theorem ok51 {W0 : World} (n : Nat) : FnOK Tryd.prog W0 (e51 n) := c51.sound .nil n Tryd.func51 (by kernel_rfl) (by kernel_rfl)
noncomputable def f51 (n : Nat) (f : (Int × (Int × Int))) : Option (Int) := c51.f Tryd.prog (T51 n) n f
theorem f51_eq (n : Nat) (f : (Int × (Int × Int))) : f51 n f =
  bif f.fst == (0 : Int) then
   bif f.fst == (0 : Int) then
    bif f.snd.fst == (0 : Int) then
     bif !f.snd.snd == (0 : Int) then
      some (30 : Int)
     else
      some (0 : Int)
    else
     some (30 : Int)
   else
    bif f.fst == (1 : Int) then
     bif f.fst == (1 : Int) then
      bif !decide (f.snd.snd ≥ (1 : Int)) then
       some (30 : Int)
      else
       some (0 : Int)
     else
      bif f.fst == (5 : Int) then
       bif f.snd.fst == (0 : Int) then
        bif !decide (f.snd.snd ≥ (1 : Int)) then
         some (30 : Int)
        else
         some (0 : Int)
       else
        some (30 : Int)
      else
       some (30 : Int)
    else
     bif f.fst == (2 : Int) then
      bif !decide (f.snd.snd ≥ (1 : Int)) then
       some (30 : Int)
      else
       some (0 : Int)
     else
      bif f.fst == (5 : Int) then
       bif f.snd.fst == (0 : Int) then
        bif !decide (f.snd.snd ≥ (1 : Int)) then
         some (30 : Int)
        else
         some (0 : Int)
       else
        some (30 : Int)
      else
       some (30 : Int)
  else
   bif f.fst == (3 : Int) then
    bif f.fst == (3 : Int) then
     bif f.snd.fst == (0 : Int) then
      bif !f.snd.snd == (0 : Int) then
       some (30 : Int)
      else
       some (0 : Int)
     else
      some (30 : Int)
    else
     bif f.fst == (1 : Int) then
      bif f.fst == (1 : Int) then
       bif !decide (f.snd.snd ≥ (1 : Int)) then
        some (30 : Int)
       else
        some (0 : Int)
      else
       bif f.fst == (5 : Int) then
        bif f.snd.fst == (0 : Int) then
         bif !decide (f.snd.snd ≥ (1 : Int)) then
          some (30 : Int)
         else
          some (0 : Int)
        else
         some (30 : Int)
       else
        some (30 : Int)
     else
      bif f.fst == (2 : Int) then
       bif !decide (f.snd.snd ≥ (1 : Int)) then
        some (30 : Int)
       else
        some (0 : Int)
      else
       bif f.fst == (5 : Int) then
        bif f.snd.fst == (0 : Int) then
         bif !decide (f.snd.snd ≥ (1 : Int)) then
          some (30 : Int)
         else
          some (0 : Int)
        else
         some (30 : Int)
       else
        some (30 : Int)
   else
    bif f.fst == (4 : Int) then
     bif f.snd.fst == (0 : Int) then
      bif !f.snd.snd == (0 : Int) then
       some (30 : Int)
      else
       some (0 : Int)
     else
      some (30 : Int)
    else
     bif f.fst == (1 : Int) then
      bif f.fst == (1 : Int) then
       bif !decide (f.snd.snd ≥ (1 : Int)) then
        some (30 : Int)
       else
        some (0 : Int)
      else
       bif f.fst == (5 : Int) then
        bif f.snd.fst == (0 : Int) then
         bif !decide (f.snd.snd ≥ (1 : Int)) then
          some (30 : Int)
         else
          some (0 : Int)
        else
         some (30 : Int)
       else
        some (30 : Int)
     else
      bif f.fst == (2 : Int) then
       bif !decide (f.snd.snd ≥ (1 : Int)) then
        some (30 : Int)
       else
        some (0 : Int)
      else
       bif f.fst == (5 : Int) then
        bif f.snd.fst == (0 : Int) then
         bif !decide (f.snd.snd ≥ (1 : Int)) then
          some (30 : Int)
         else
          some (0 : Int)
        else
         some (30 : Int)
       else
        some (30 : Int) := by kernel_rfl
/- convoy/fail.Right -/
noncomputable def c38 : Cfg := ⟨38, Tryd.f38, [(.agg (.pair (.int .i64) (.agg (.pair (.int .i64) (.pair (.int .i64) (.int .i64))))))], [.bool], 5, [], []⟩
noncomputable def T38 (n : Nat) : Tab := ⟨[e51 n], []⟩
noncomputable def e38 (n : Nat) : Entry := c38.entry Tryd.prog (T38 n) n
theorem ok38 {W0 : World} (n : Nat) : FnOK Tryd.prog W0 (e38 n) := c38.sound (.cons (ok51 n) .nil) n Tryd.func38 (by kernel_rfl) (by kernel_rfl)
noncomputable def f38 (n : Nat) (o : (Int × (Int × (Int × Int)))) : Option (Bool) := c38.f Tryd.prog (T38 n) n o
theorem f38_eq (n : Nat) (o : (Int × (Int × (Int × Int)))) : f38 n o =
  (f51 n o.snd).bind fun r1 =>
  bif r1 == (0 : Int) then
   bif o.fst == (0 : Int) then
    some true
   else
    some (o.snd.fst == (0 : Int) && (o.snd.snd.fst == (0 : Int) && o.snd.snd.snd == (0 : Int)))
  else
   some false := by kernel_rfl
/- (*convoy/client.Client).place -/
noncomputable def c36o : OCfg := ⟨36, Tryd.f36, ⟨15, 4, [(0, (.ptr 1 [])), (1, (.val (.int .i64)))], [(1, .box (.agg (.pair (.val (.sl 29 (.agg (.pair (.int .i64) (.pair (.agg (.pair (.int .u16) .str)) (.pair (.int .i64) (.int .i64))))))) (.pair (.val (.int .i64)) (.pair (.val (.int .i64)) (.pair (.rs 100002) (.val (.arr 16 (.agg (.pair (.int .i64) (.pair (.int .i64) (.agg (.pair (.int .i64) (.pair (.int .i64) (.pair (.agg (.pair (.int .i64) (.agg (.pair (.int .i64) (.pair (.int .i64) (.int .i64)))))) (.int .i64)))))))))))))))), (100002, .row 48 (.agg (.pair (.int .i64) (.pair (.int .i64) (.pair (.agg (.pair (.int .i64) (.agg (.pair (.int .i64) (.pair (.int .i64) (.int .i64)))))) (.int .i64))))))]⟩, [⟨1, 2, [(0, (.val (.int .i64)))], [(1, .box (.agg (.pair (.val (.sl 29 (.agg (.pair (.int .i64) (.pair (.agg (.pair (.int .u16) .str)) (.pair (.int .i64) (.int .i64))))))) (.pair (.val (.int .i64)) (.pair (.val (.int .i64)) (.pair (.rs 100002) (.val (.arr 16 (.agg (.pair (.int .i64) (.pair (.int .i64) (.agg (.pair (.int .i64) (.pair (.int .i64) (.pair (.agg (.pair (.int .i64) (.agg (.pair (.int .i64) (.pair (.int .i64) (.int .i64)))))) (.int .i64)))))))))))))))), (100002, .row 48 (.agg (.pair (.int .i64) (.pair (.int .i64) (.pair (.agg (.pair (.int .i64) (.agg (.pair (.int .i64) (.pair (.int .i64) (.int .i64)))))) (.int .i64))))))]⟩], [], []⟩
noncomputable def T36o (_ : Nat) : Tab := ⟨[], []⟩
noncomputable def e36o (n : Nat) : OE := c36o.entry Tryd.prog (T36o n) n
theorem ok36o {W0 : World} (n : Nat) : OOK Tryd.prog W0 (e36o n) := c36o.sound .nil n Tryd.func36 (by kernel_rfl) (by kernel_rfl)
noncomputable def f36o (n : Nat) (slot : Int) (b1a : List (Int × ((Int × ByteArray) × (Int × Int)))) (b1ba : Int) (b1bba : Int) (b1bbbb : List (Int × (Int × (Int × (Int × ((Int × (Int × (Int × Int))) × Int)))))) (l100002 : List (Int × (Int × ((Int × (Int × (Int × Int))) × Int)))) : Option ((Int × ((List (Int × ((Int × ByteArray) × (Int × Int))) × (Int × (Int × (Unit × List (Int × (Int × (Int × (Int × ((Int × (Int × (Int × Int))) × Int))))))))) × (List (Int × (Int × ((Int × (Int × (Int × Int))) × Int))) × Unit)))) := c36o.f Tryd.prog (T36o n) n ((), slot) ((b1a, (b1ba, (b1bba, ((), b1bbbb)))), l100002, ())
theorem f36o_eq (n : Nat) (slot : Int) (b1a : List (Int × ((Int × ByteArray) × (Int × Int)))) (b1ba : Int) (b1bba : Int) (b1bbbb : List (Int × (Int × (Int × (Int × ((Int × (Int × (Int × Int))) × Int)))))) (l100002 : List (Int × (Int × ((Int × (Int × (Int × Int))) × Int)))) : f36o n slot b1a b1ba b1bba b1bbbb l100002 =
  bif decide (slot < (0 : Int)) then
   some (((211 : Int), ((b1a, (b1ba, (b1bba, ((), b1bbbb)))), l100002, ())))
  else
   bif decide (slot ≥ (16 : Int)) then
    some (((211 : Int), ((b1a, (b1ba, (b1bba, ((), b1bbbb)))), l100002, ())))
   else
    some (((0 : Int), ((b1a, (b1ba, (b1bba, ((), b1bbbb)))), l100002, ()))) := by kernel_rfl
/- (*convoy/client.Client).Token -/
noncomputable def c14o : OCfg := ⟨14, Tryd.f14, ⟨9, 4, [(0, (.ptr 1 []))], [(1, .box (.agg (.pair (.val (.sl 29 (.agg (.pair (.int .i64) (.pair (.agg (.pair (.int .u16) .str)) (.pair (.int .i64) (.int .i64))))))) (.pair (.val (.int .i64)) (.pair (.val (.int .i64)) (.pair (.rs 100002) (.val (.arr 16 (.agg (.pair (.int .i64) (.pair (.int .i64) (.agg (.pair (.int .i64) (.pair (.int .i64) (.pair (.agg (.pair (.int .i64) (.agg (.pair (.int .i64) (.pair (.int .i64) (.int .i64)))))) (.int .i64)))))))))))))))), (100002, .row 48 (.agg (.pair (.int .i64) (.pair (.int .i64) (.pair (.agg (.pair (.int .i64) (.agg (.pair (.int .i64) (.pair (.int .i64) (.int .i64)))))) (.int .i64))))))]⟩, [⟨1, 2, [(0, (.val (.int .i64)))], [(1, .box (.agg (.pair (.val (.sl 29 (.agg (.pair (.int .i64) (.pair (.agg (.pair (.int .u16) .str)) (.pair (.int .i64) (.int .i64))))))) (.pair (.val (.int .i64)) (.pair (.val (.int .i64)) (.pair (.rs 100002) (.val (.arr 16 (.agg (.pair (.int .i64) (.pair (.int .i64) (.agg (.pair (.int .i64) (.pair (.int .i64) (.pair (.agg (.pair (.int .i64) (.agg (.pair (.int .i64) (.pair (.int .i64) (.int .i64)))))) (.int .i64)))))))))))))))), (100002, .row 48 (.agg (.pair (.int .i64) (.pair (.int .i64) (.pair (.agg (.pair (.int .i64) (.agg (.pair (.int .i64) (.pair (.int .i64) (.int .i64)))))) (.int .i64))))))]⟩], [], []⟩
noncomputable def T14o (_ : Nat) : Tab := ⟨[], []⟩
noncomputable def e14o (n : Nat) : OE := c14o.entry Tryd.prog (T14o n) n
theorem ok14o {W0 : World} (n : Nat) : OOK Tryd.prog W0 (e14o n) := c14o.sound .nil n Tryd.func14 (by kernel_rfl) (by kernel_rfl)
noncomputable def f14o (n : Nat) (b1a : List (Int × ((Int × ByteArray) × (Int × Int)))) (b1ba : Int) (b1bba : Int) (b1bbbb : List (Int × (Int × (Int × (Int × ((Int × (Int × (Int × Int))) × Int)))))) (l100002 : List (Int × (Int × ((Int × (Int × (Int × Int))) × Int)))) : Option ((Int × ((List (Int × ((Int × ByteArray) × (Int × Int))) × (Int × (Int × (Unit × List (Int × (Int × (Int × (Int × ((Int × (Int × (Int × Int))) × Int))))))))) × (List (Int × (Int × ((Int × (Int × (Int × Int))) × Int))) × Unit)))) := c14o.f Tryd.prog (T14o n) n () ((b1a, (b1ba, (b1bba, ((), b1bbbb)))), l100002, ())
theorem f14o_eq (n : Nat) (b1a : List (Int × ((Int × ByteArray) × (Int × Int)))) (b1ba : Int) (b1bba : Int) (b1bbbb : List (Int × (Int × (Int × (Int × ((Int × (Int × (Int × Int))) × Int)))))) (l100002 : List (Int × (Int × ((Int × (Int × (Int × Int))) × Int)))) : f14o n b1a b1ba b1bba b1bbbb l100002 =
  some ((b1bba, ((b1a, (b1ba, (b1bba, ((), b1bbbb)))), l100002, ()))) := by kernel_rfl
/- slices.Clone[[]convoy/api.Got,convoy/api.Got] -/
noncomputable def c35o : OCfg := ⟨35, Tryd.f35, ⟨8, 3, [(0, (.val (.sl 48 (.agg (.pair (.int .i64) (.pair (.int .i64) (.pair (.agg (.pair (.int .i64) (.agg (.pair (.int .i64) (.pair (.int .i64) (.int .i64)))))) (.int .i64))))))))], []⟩, [⟨1, 2, [(0, (.rs 1002))], [(1002, .row 48 (.agg (.pair (.int .i64) (.pair (.int .i64) (.pair (.agg (.pair (.int .i64) (.agg (.pair (.int .i64) (.pair (.int .i64) (.int .i64)))))) (.int .i64))))))]⟩], [], []⟩
noncomputable def T35o (_ : Nat) : Tab := ⟨[], []⟩
noncomputable def e35o (n : Nat) : OE := c35o.entry Tryd.prog (T35o n) n
theorem ok35o {W0 : World} (n : Nat) : OOK Tryd.prog W0 (e35o n) := c35o.sound .nil n Tryd.func35 (by kernel_rfl) (by kernel_rfl)
noncomputable def f35o (n : Nat) (s : List (Int × (Int × ((Int × (Int × (Int × Int))) × Int)))) : Option ((Unit × (List (Int × (Int × ((Int × (Int × (Int × Int))) × Int))) × Unit))) := c35o.f Tryd.prog (T35o n) n s ()
theorem f35o_eq (n : Nat) (s : List (Int × (Int × ((Int × (Int × (Int × Int))) × Int)))) : f35o n s =
  bif s.isEmpty then
   Go.Rf.both (some (((), ([], ()))))
    (bif decide (((0 : Nat) + s.length) * (56 : Nat) ≤ Go.Rf.maxBytes) then
     some (((), ([] ++ s, ())))
    else
     none)
  else
   bif decide (((0 : Nat) + s.length) * (56 : Nat) ≤ Go.Rf.maxBytes) then
    some (((), ([] ++ s, ())))
   else
    none := by kernel_rfl
/- (*convoy/client.Client).Go -/
noncomputable def c17o : OCfg := ⟨17, Tryd.f17, ⟨21, 5, [(0, (.ptr 1 []))], [(1, .box (.agg (.pair (.val (.sl 29 (.agg (.pair (.int .i64) (.pair (.agg (.pair (.int .u16) .str)) (.pair (.int .i64) (.int .i64))))))) (.pair (.val (.int .i64)) (.pair (.val (.int .i64)) (.pair (.rs 100002) (.val (.arr 16 (.agg (.pair (.int .i64) (.pair (.int .i64) (.agg (.pair (.int .i64) (.pair (.int .i64) (.pair (.agg (.pair (.int .i64) (.agg (.pair (.int .i64) (.pair (.int .i64) (.int .i64)))))) (.int .i64)))))))))))))))), (100002, .row 48 (.agg (.pair (.int .i64) (.pair (.int .i64) (.pair (.agg (.pair (.int .i64) (.agg (.pair (.int .i64) (.pair (.int .i64) (.int .i64)))))) (.int .i64))))))]⟩, [⟨1, 2, [(0, (.val .bool))], [(1, .box (.agg (.pair (.val (.sl 29 (.agg (.pair (.int .i64) (.pair (.agg (.pair (.int .u16) .str)) (.pair (.int .i64) (.int .i64))))))) (.pair (.val (.int .i64)) (.pair (.val (.int .i64)) (.pair (.rs 100002) (.val (.arr 16 (.agg (.pair (.int .i64) (.pair (.int .i64) (.agg (.pair (.int .i64) (.pair (.int .i64) (.pair (.agg (.pair (.int .i64) (.agg (.pair (.int .i64) (.pair (.int .i64) (.int .i64)))))) (.int .i64)))))))))))))))), (100002, .row 48 (.agg (.pair (.int .i64) (.pair (.int .i64) (.pair (.agg (.pair (.int .i64) (.agg (.pair (.int .i64) (.pair (.int .i64) (.int .i64)))))) (.int .i64))))))]⟩], [], []⟩
noncomputable def T17o (n : Nat) : Tab := ⟨[], [e13o n]⟩
noncomputable def e17o (n : Nat) : OE := c17o.entry Tryd.prog (T17o n) n
theorem ok17o {W0 : World} (n : Nat) : OOK Tryd.prog W0 (e17o n) := c17o.sound (.ocons (ok13o n) .nil) n Tryd.func17 (by kernel_rfl) (by kernel_rfl)
noncomputable def f17o (n : Nat) (b1a : List (Int × ((Int × ByteArray) × (Int × Int)))) (b1ba : Int) (b1bba : Int) (b1bbbb : List (Int × (Int × (Int × (Int × ((Int × (Int × (Int × Int))) × Int)))))) (l100002 : List (Int × (Int × ((Int × (Int × (Int × Int))) × Int)))) : Option ((Bool × ((List (Int × ((Int × ByteArray) × (Int × Int))) × (Int × (Int × (Unit × List (Int × (Int × (Int × (Int × ((Int × (Int × (Int × Int))) × Int))))))))) × (List (Int × (Int × ((Int × (Int × (Int × Int))) × Int))) × Unit)))) := c17o.f Tryd.prog (T17o n) n () ((b1a, (b1ba, (b1bba, ((), b1bbbb)))), l100002, ())
theorem f17o_eq (n : Nat) (b1a : List (Int × ((Int × ByteArray) × (Int × Int)))) (b1ba : Int) (b1bba : Int) (b1bbbb : List (Int × (Int × (Int × (Int × ((Int × (Int × (Int × Int))) × Int)))))) (l100002 : List (Int × (Int × ((Int × (Int × (Int × Int))) × Int)))) : f17o n b1a b1ba b1bba b1bbbb l100002 =
  (f13o n b1a b1ba b1bba b1bbbb l100002).bind fun r1 =>
  bif r1.fst.snd.snd then
   some ((r1.fst.snd.snd, ((r1.snd.fst.fst, (Go.IntKind.i64.wrap (r1.snd.fst.snd.fst + (1 : Int)), (r1.snd.fst.snd.snd.fst, ((), r1.snd.fst.snd.snd.snd.snd)))), r1.snd.snd.fst, ())))
  else
   some ((r1.fst.snd.snd, ((r1.snd.fst.fst, (r1.snd.fst.snd.fst, (r1.snd.fst.snd.snd.fst, ((), r1.snd.fst.snd.snd.snd.snd)))), r1.snd.snd.fst, ()))) := by kernel_rfl
/- (*convoy/client.Client).Use -/
noncomputable def c18o : OCfg := ⟨18, Tryd.f18, ⟨19, 5, [(0, (.ptr 1 [])), (1, (.val (.int .i64)))], [(1, .box (.agg (.pair (.val (.sl 29 (.agg (.pair (.int .i64) (.pair (.agg (.pair (.int .u16) .str)) (.pair (.int .i64) (.int .i64))))))) (.pair (.val (.int .i64)) (.pair (.val (.int .i64)) (.pair (.rs 100002) (.val (.arr 16 (.agg (.pair (.int .i64) (.pair (.int .i64) (.agg (.pair (.int .i64) (.pair (.int .i64) (.pair (.agg (.pair (.int .i64) (.agg (.pair (.int .i64) (.pair (.int .i64) (.int .i64)))))) (.int .i64)))))))))))))))), (100002, .row 48 (.agg (.pair (.int .i64) (.pair (.int .i64) (.pair (.agg (.pair (.int .i64) (.agg (.pair (.int .i64) (.pair (.int .i64) (.int .i64)))))) (.int .i64))))))]⟩, [⟨1, 2, [(0, (.val (.int .i64)))], [(1, .box (.agg (.pair (.val (.sl 29 (.agg (.pair (.int .i64) (.pair (.agg (.pair (.int .u16) .str)) (.pair (.int .i64) (.int .i64))))))) (.pair (.val (.int .i64)) (.pair (.val (.int .i64)) (.pair (.rs 100002) (.val (.arr 16 (.agg (.pair (.int .i64) (.pair (.int .i64) (.agg (.pair (.int .i64) (.pair (.int .i64) (.pair (.agg (.pair (.int .i64) (.agg (.pair (.int .i64) (.pair (.int .i64) (.int .i64)))))) (.int .i64)))))))))))))))), (100002, .row 48 (.agg (.pair (.int .i64) (.pair (.int .i64) (.pair (.agg (.pair (.int .i64) (.agg (.pair (.int .i64) (.pair (.int .i64) (.int .i64)))))) (.int .i64))))))]⟩], [], []⟩
noncomputable def T18o (_ : Nat) : Tab := ⟨[], []⟩
noncomputable def e18o (n : Nat) : OE := c18o.entry Tryd.prog (T18o n) n
theorem ok18o {W0 : World} (n : Nat) : OOK Tryd.prog W0 (e18o n) := c18o.sound .nil n Tryd.func18 (by kernel_rfl) (by kernel_rfl)
noncomputable def f18o (n : Nat) (token : Int) (b1a : List (Int × ((Int × ByteArray) × (Int × Int)))) (b1ba : Int) (b1bba : Int) (b1bbbb : List (Int × (Int × (Int × (Int × ((Int × (Int × (Int × Int))) × Int)))))) (l100002 : List (Int × (Int × ((Int × (Int × (Int × Int))) × Int)))) : Option ((Int × ((List (Int × ((Int × ByteArray) × (Int × Int))) × (Int × (Int × (Unit × List (Int × (Int × (Int × (Int × ((Int × (Int × (Int × Int))) × Int))))))))) × (List (Int × (Int × ((Int × (Int × (Int × Int))) × Int))) × Unit)))) := c18o.f Tryd.prog (T18o n) n ((), token) ((b1a, (b1ba, (b1bba, ((), b1bbbb)))), l100002, ())
theorem f18o_eq (n : Nat) (token : Int) (b1a : List (Int × ((Int × ByteArray) × (Int × Int)))) (b1ba : Int) (b1bba : Int) (b1bbbb : List (Int × (Int × (Int × (Int × ((Int × (Int × (Int × Int))) × Int)))))) (l100002 : List (Int × (Int × ((Int × (Int × (Int × Int))) × Int)))) : f18o n token b1a b1ba b1bba b1bbbb l100002 =
  bif decide (token < (0 : Int)) then
   some (((1 : Int), ((b1a, (b1ba, (b1bba, ((), b1bbbb)))), l100002, ())))
  else
   bif decide (token > (1024 : Int)) then
    some (((1 : Int), ((b1a, (b1ba, (b1bba, ((), b1bbbb)))), l100002, ())))
   else
    some (((0 : Int), ((b1a, (b1ba, (token, ((), b1bbbb)))), l100002, ()))) := by kernel_rfl
/- (*convoy/client.Client).Had -/
noncomputable def c19o : OCfg := ⟨19, Tryd.f19, ⟨43, 6, [(0, (.ptr 1 [])), (1, (.val (.agg (.pair (.int .i64) (.pair (.int .i64) (.pair (.agg (.pair (.int .i64) (.agg (.pair (.int .i64) (.pair (.int .i64) (.int .i64)))))) (.int .i64)))))))], [(1, .box (.agg (.pair (.val (.sl 29 (.agg (.pair (.int .i64) (.pair (.agg (.pair (.int .u16) .str)) (.pair (.int .i64) (.int .i64))))))) (.pair (.val (.int .i64)) (.pair (.val (.int .i64)) (.pair (.rs 100002) (.val (.arr 16 (.agg (.pair (.int .i64) (.pair (.int .i64) (.agg (.pair (.int .i64) (.pair (.int .i64) (.pair (.agg (.pair (.int .i64) (.agg (.pair (.int .i64) (.pair (.int .i64) (.int .i64)))))) (.int .i64)))))))))))))))), (100002, .row 48 (.agg (.pair (.int .i64) (.pair (.int .i64) (.pair (.agg (.pair (.int .i64) (.agg (.pair (.int .i64) (.pair (.int .i64) (.int .i64)))))) (.int .i64))))))]⟩, [⟨1, 2, [(0, (.val (.int .i64)))], [(1, .box (.agg (.pair (.val (.sl 29 (.agg (.pair (.int .i64) (.pair (.agg (.pair (.int .u16) .str)) (.pair (.int .i64) (.int .i64))))))) (.pair (.val (.int .i64)) (.pair (.val (.int .i64)) (.pair (.rs 100002) (.val (.arr 16 (.agg (.pair (.int .i64) (.pair (.int .i64) (.agg (.pair (.int .i64) (.pair (.int .i64) (.pair (.agg (.pair (.int .i64) (.agg (.pair (.int .i64) (.pair (.int .i64) (.int .i64)))))) (.int .i64)))))))))))))))), (100002, .row 48 (.agg (.pair (.int .i64) (.pair (.int .i64) (.pair (.agg (.pair (.int .i64) (.agg (.pair (.int .i64) (.pair (.int .i64) (.int .i64)))))) (.int .i64))))))]⟩], [], []⟩
noncomputable def T19o (n : Nat) : Tab := ⟨[e37 n, e38 n], []⟩
noncomputable def e19o (n : Nat) : OE := c19o.entry Tryd.prog (T19o n) n
theorem ok19o {W0 : World} (n : Nat) : OOK Tryd.prog W0 (e19o n) := c19o.sound (.cons (ok37 n) (.cons (ok38 n) .nil)) n Tryd.func19 (by kernel_rfl) (by kernel_rfl)
noncomputable def f19o (n : Nat) (g : (Int × (Int × ((Int × (Int × (Int × Int))) × Int)))) (b1a : List (Int × ((Int × ByteArray) × (Int × Int)))) (b1ba : Int) (b1bba : Int) (b1bbbb : List (Int × (Int × (Int × (Int × ((Int × (Int × (Int × Int))) × Int)))))) (l100002 : List (Int × (Int × ((Int × (Int × (Int × Int))) × Int)))) : Option ((Int × ((List (Int × ((Int × ByteArray) × (Int × Int))) × (Int × (Int × (Unit × List (Int × (Int × (Int × (Int × ((Int × (Int × (Int × Int))) × Int))))))))) × (List (Int × (Int × ((Int × (Int × (Int × Int))) × Int))) × Unit)))) := c19o.f Tryd.prog (T19o n) n ((), g) ((b1a, (b1ba, (b1bba, ((), b1bbbb)))), l100002, ())
theorem f19o_eq (n : Nat) (g : (Int × (Int × ((Int × (Int × (Int × Int))) × Int)))) (b1a : List (Int × ((Int × ByteArray) × (Int × Int)))) (b1ba : Int) (b1bba : Int) (b1bbbb : List (Int × (Int × (Int × (Int × ((Int × (Int × (Int × Int))) × Int)))))) (l100002 : List (Int × (Int × ((Int × (Int × (Int × Int))) × Int)))) : f19o n g b1a b1ba b1bba b1bbbb l100002 =
  bif decide (g.fst < (0 : Int)) then
   some (((1 : Int), ((b1a, (b1ba, (b1bba, ((), b1bbbb)))), l100002, ())))
  else
   bif decide (g.fst ≥ ↑b1a.length) then
    some (((1 : Int), ((b1a, (b1ba, (b1bba, ((), b1bbbb)))), l100002, ())))
   else
    (f37 n g).bind fun r1 =>
    bif !r1 then
     some (((1 : Int), ((b1a, (b1ba, (b1bba, ((), b1bbbb)))), l100002, ())))
    else
     (f38 n g.snd.snd.fst).bind fun r2 =>
     bif !r2 then
      some (((1 : Int), ((b1a, (b1ba, (b1bba, ((), b1bbbb)))), l100002, ())))
     else
      bif decide ((l100002.length + [g].length) * (56 : Nat) ≤ Go.Rf.maxBytes) then
       some (((0 : Int), ((b1a, (b1ba, (b1bba, ((), b1bbbb)))), l100002 ++ [g], ())))
      else
       none := by kernel_rfl
/- (*convoy/client.Client).Log -/
noncomputable def c15o : OCfg := ⟨15, Tryd.f15, ⟨10, 4, [(0, (.ptr 1 []))], [(1, .box (.agg (.pair (.val (.sl 29 (.agg (.pair (.int .i64) (.pair (.agg (.pair (.int .u16) .str)) (.pair (.int .i64) (.int .i64))))))) (.pair (.val (.int .i64)) (.pair (.val (.int .i64)) (.pair (.rs 100002) (.val (.arr 16 (.agg (.pair (.int .i64) (.pair (.int .i64) (.agg (.pair (.int .i64) (.pair (.int .i64) (.pair (.agg (.pair (.int .i64) (.agg (.pair (.int .i64) (.pair (.int .i64) (.int .i64)))))) (.int .i64)))))))))))))))), (100002, .row 48 (.agg (.pair (.int .i64) (.pair (.int .i64) (.pair (.agg (.pair (.int .i64) (.agg (.pair (.int .i64) (.pair (.int .i64) (.int .i64)))))) (.int .i64))))))]⟩, [⟨1, 2, [(0, (.rs 101005))], [(1, .box (.agg (.pair (.val (.sl 29 (.agg (.pair (.int .i64) (.pair (.agg (.pair (.int .u16) .str)) (.pair (.int .i64) (.int .i64))))))) (.pair (.val (.int .i64)) (.pair (.val (.int .i64)) (.pair (.rs 100002) (.val (.arr 16 (.agg (.pair (.int .i64) (.pair (.int .i64) (.agg (.pair (.int .i64) (.pair (.int .i64) (.pair (.agg (.pair (.int .i64) (.agg (.pair (.int .i64) (.pair (.int .i64) (.int .i64)))))) (.int .i64)))))))))))))))), (100002, .row 48 (.agg (.pair (.int .i64) (.pair (.int .i64) (.pair (.agg (.pair (.int .i64) (.agg (.pair (.int .i64) (.pair (.int .i64) (.int .i64)))))) (.int .i64)))))), (101005, .row 48 (.agg (.pair (.int .i64) (.pair (.int .i64) (.pair (.agg (.pair (.int .i64) (.agg (.pair (.int .i64) (.pair (.int .i64) (.int .i64)))))) (.int .i64))))))]⟩], [], []⟩
noncomputable def T15o (n : Nat) : Tab := ⟨[], [e35o n]⟩
noncomputable def e15o (n : Nat) : OE := c15o.entry Tryd.prog (T15o n) n
theorem ok15o {W0 : World} (n : Nat) : OOK Tryd.prog W0 (e15o n) := c15o.sound (.ocons (ok35o n) .nil) n Tryd.func15 (by kernel_rfl) (by kernel_rfl)
noncomputable def f15o (n : Nat) (b1a : List (Int × ((Int × ByteArray) × (Int × Int)))) (b1ba : Int) (b1bba : Int) (b1bbbb : List (Int × (Int × (Int × (Int × ((Int × (Int × (Int × Int))) × Int)))))) (l100002 : List (Int × (Int × ((Int × (Int × (Int × Int))) × Int)))) : Option ((Unit × ((List (Int × ((Int × ByteArray) × (Int × Int))) × (Int × (Int × (Unit × List (Int × (Int × (Int × (Int × ((Int × (Int × (Int × Int))) × Int))))))))) × (List (Int × (Int × ((Int × (Int × (Int × Int))) × Int))) × (List (Int × (Int × ((Int × (Int × (Int × Int))) × Int))) × Unit))))) := c15o.f Tryd.prog (T15o n) n () ((b1a, (b1ba, (b1bba, ((), b1bbbb)))), l100002, ())
theorem f15o_eq (n : Nat) (b1a : List (Int × ((Int × ByteArray) × (Int × Int)))) (b1ba : Int) (b1bba : Int) (b1bbbb : List (Int × (Int × (Int × (Int × ((Int × (Int × (Int × Int))) × Int)))))) (l100002 : List (Int × (Int × ((Int × (Int × (Int × Int))) × Int)))) : f15o n b1a b1ba b1bba b1bbbb l100002 =
  (f35o n l100002).bind fun r1 =>
  some (((), ((b1a, (b1ba, (b1bba, ((), b1bbbb)))), l100002, r1.snd.fst, ()))) := by kernel_rfl
/- (*convoy/client.Client).Put -/
noncomputable def c20o : OCfg := ⟨20, Tryd.f20, ⟨36, 6, [(0, (.ptr 1 [])), (1, (.val (.int .i64))), (2, (.val (.int .i64)))], [(1, .box (.agg (.pair (.val (.sl 29 (.agg (.pair (.int .i64) (.pair (.agg (.pair (.int .u16) .str)) (.pair (.int .i64) (.int .i64))))))) (.pair (.val (.int .i64)) (.pair (.val (.int .i64)) (.pair (.rs 100002) (.val (.arr 16 (.agg (.pair (.int .i64) (.pair (.int .i64) (.agg (.pair (.int .i64) (.pair (.int .i64) (.pair (.agg (.pair (.int .i64) (.agg (.pair (.int .i64) (.pair (.int .i64) (.int .i64)))))) (.int .i64)))))))))))))))), (100002, .row 48 (.agg (.pair (.int .i64) (.pair (.int .i64) (.pair (.agg (.pair (.int .i64) (.agg (.pair (.int .i64) (.pair (.int .i64) (.int .i64)))))) (.int .i64))))))]⟩, [⟨1, 2, [(0, (.val (.int .i64)))], [(1, .box (.agg (.pair (.val (.sl 29 (.agg (.pair (.int .i64) (.pair (.agg (.pair (.int .u16) .str)) (.pair (.int .i64) (.int .i64))))))) (.pair (.val (.int .i64)) (.pair (.val (.int .i64)) (.pair (.rs 100002) (.val (.arr 16 (.agg (.pair (.int .i64) (.pair (.int .i64) (.agg (.pair (.int .i64) (.pair (.int .i64) (.pair (.agg (.pair (.int .i64) (.agg (.pair (.int .i64) (.pair (.int .i64) (.int .i64)))))) (.int .i64)))))))))))))))), (100002, .row 48 (.agg (.pair (.int .i64) (.pair (.int .i64) (.pair (.agg (.pair (.int .i64) (.agg (.pair (.int .i64) (.pair (.int .i64) (.int .i64)))))) (.int .i64))))))]⟩], [], []⟩
noncomputable def T20o (n : Nat) : Tab := ⟨[], [e36o n]⟩
noncomputable def e20o (n : Nat) : OE := c20o.entry Tryd.prog (T20o n) n
theorem ok20o {W0 : World} (n : Nat) : OOK Tryd.prog W0 (e20o n) := c20o.sound (.ocons (ok36o n) .nil) n Tryd.func20 (by kernel_rfl) (by kernel_rfl)
noncomputable def f20o (n : Nat) (slot : Int) (caller : Int) (b1a : List (Int × ((Int × ByteArray) × (Int × Int)))) (b1ba : Int) (b1bba : Int) (b1bbbb : List (Int × (Int × (Int × (Int × ((Int × (Int × (Int × Int))) × Int)))))) (l100002 : List (Int × (Int × ((Int × (Int × (Int × Int))) × Int)))) : Option ((Int × ((List (Int × ((Int × ByteArray) × (Int × Int))) × (Int × (Int × (Unit × List (Int × (Int × (Int × (Int × ((Int × (Int × (Int × Int))) × Int))))))))) × (List (Int × (Int × ((Int × (Int × (Int × Int))) × Int))) × Unit)))) := c20o.f Tryd.prog (T20o n) n ((), slot, caller) ((b1a, (b1ba, (b1bba, ((), b1bbbb)))), l100002, ())
theorem f20o_eq (n : Nat) (slot : Int) (caller : Int) (b1a : List (Int × ((Int × ByteArray) × (Int × Int)))) (b1ba : Int) (b1bba : Int) (b1bbbb : List (Int × (Int × (Int × (Int × ((Int × (Int × (Int × Int))) × Int)))))) (l100002 : List (Int × (Int × ((Int × (Int × (Int × Int))) × Int)))) : f20o n slot caller b1a b1ba b1bba b1bbbb l100002 =
  (f36o n slot b1a b1ba b1bba b1bbbb l100002).bind fun r1 =>
  bif r1.fst != (0 : Int) then
   some ((r1.fst, ((r1.snd.fst.fst, (r1.snd.fst.snd.fst, (r1.snd.fst.snd.snd.fst, ((), r1.snd.fst.snd.snd.snd.snd)))), r1.snd.snd.fst, ())))
  else
   bif decide (caller < (1 : Int)) then
    some (((1 : Int), ((r1.snd.fst.fst, (r1.snd.fst.snd.fst, (r1.snd.fst.snd.snd.fst, ((), r1.snd.fst.snd.snd.snd.snd)))), r1.snd.snd.fst, ())))
   else
    bif decide ((0 : Int) ≤ slot ∧ slot < ↑(16 : Nat)) then
     bif decide ((0 : Int) ≤ slot ∧ slot < ↑(16 : Nat)) then
      bif decide ((0 : Int) ≤ slot ∧ slot < ↑(16 : Nat)) then
       some (((0 : Int), ((r1.snd.fst.fst, (r1.snd.fst.snd.fst, (r1.snd.fst.snd.snd.fst, ((), ((List.set r1.snd.fst.snd.snd.snd.snd slot.toNat ((2 : Int), (List.getD r1.snd.fst.snd.snd.snd.snd slot.toNat ((0 : Int), (0 : Int), (0 : Int), (0 : Int), ((0 : Int), (0 : Int), (0 : Int), (0 : Int)), (0 : Int))).snd)).set slot.toNat (((List.set r1.snd.fst.snd.snd.snd.snd slot.toNat ((2 : Int), (List.getD r1.snd.fst.snd.snd.snd.snd slot.toNat ((0 : Int), (0 : Int), (0 : Int), (0 : Int), ((0 : Int), (0 : Int), (0 : Int), (0 : Int)), (0 : Int))).snd)).getD slot.toNat ((0 : Int), (0 : Int), (0 : Int), (0 : Int), ((0 : Int), (0 : Int), (0 : Int), (0 : Int)), (0 : Int))).fst, caller, ((List.set r1.snd.fst.snd.snd.snd.snd slot.toNat ((2 : Int), (List.getD r1.snd.fst.snd.snd.snd.snd slot.toNat ((0 : Int), (0 : Int), (0 : Int), (0 : Int), ((0 : Int), (0 : Int), (0 : Int), (0 : Int)), (0 : Int))).snd)).getD slot.toNat ((0 : Int), (0 : Int), (0 : Int), (0 : Int), ((0 : Int), (0 : Int), (0 : Int), (0 : Int)), (0 : Int))).snd.snd)).set slot.toNat ((((List.set r1.snd.fst.snd.snd.snd.snd slot.toNat ((2 : Int), (List.getD r1.snd.fst.snd.snd.snd.snd slot.toNat ((0 : Int), (0 : Int), (0 : Int), (0 : Int), ((0 : Int), (0 : Int), (0 : Int), (0 : Int)), (0 : Int))).snd)).set slot.toNat (((List.set r1.snd.fst.snd.snd.snd.snd slot.toNat ((2 : Int), (List.getD r1.snd.fst.snd.snd.snd.snd slot.toNat ((0 : Int), (0 : Int), (0 : Int), (0 : Int), ((0 : Int), (0 : Int), (0 : Int), (0 : Int)), (0 : Int))).snd)).getD slot.toNat ((0 : Int), (0 : Int), (0 : Int), (0 : Int), ((0 : Int), (0 : Int), (0 : Int), (0 : Int)), (0 : Int))).fst, caller, ((List.set r1.snd.fst.snd.snd.snd.snd slot.toNat ((2 : Int), (List.getD r1.snd.fst.snd.snd.snd.snd slot.toNat ((0 : Int), (0 : Int), (0 : Int), (0 : Int), ((0 : Int), (0 : Int), (0 : Int), (0 : Int)), (0 : Int))).snd)).getD slot.toNat ((0 : Int), (0 : Int), (0 : Int), (0 : Int), ((0 : Int), (0 : Int), (0 : Int), (0 : Int)), (0 : Int))).snd.snd)).getD slot.toNat ((0 : Int), (0 : Int), (0 : Int), (0 : Int), ((0 : Int), (0 : Int), (0 : Int), (0 : Int)), (0 : Int))).fst, (((List.set r1.snd.fst.snd.snd.snd.snd slot.toNat ((2 : Int), (List.getD r1.snd.fst.snd.snd.snd.snd slot.toNat ((0 : Int), (0 : Int), (0 : Int), (0 : Int), ((0 : Int), (0 : Int), (0 : Int), (0 : Int)), (0 : Int))).snd)).set slot.toNat (((List.set r1.snd.fst.snd.snd.snd.snd slot.toNat ((2 : Int), (List.getD r1.snd.fst.snd.snd.snd.snd slot.toNat ((0 : Int), (0 : Int), (0 : Int), (0 : Int), ((0 : Int), (0 : Int), (0 : Int), (0 : Int)), (0 : Int))).snd)).getD slot.toNat ((0 : Int), (0 : Int), (0 : Int), (0 : Int), ((0 : Int), (0 : Int), (0 : Int), (0 : Int)), (0 : Int))).fst, caller, ((List.set r1.snd.fst.snd.snd.snd.snd slot.toNat ((2 : Int), (List.getD r1.snd.fst.snd.snd.snd.snd slot.toNat ((0 : Int), (0 : Int), (0 : Int), (0 : Int), ((0 : Int), (0 : Int), (0 : Int), (0 : Int)), (0 : Int))).snd)).getD slot.toNat ((0 : Int), (0 : Int), (0 : Int), (0 : Int), ((0 : Int), (0 : Int), (0 : Int), (0 : Int)), (0 : Int))).snd.snd)).getD slot.toNat ((0 : Int), (0 : Int), (0 : Int), (0 : Int), ((0 : Int), (0 : Int), (0 : Int), (0 : Int)), (0 : Int))).snd.fst, (0 : Int), (0 : Int), ((0 : Int), (0 : Int), (0 : Int), (0 : Int)), (0 : Int)))))), r1.snd.snd.fst, ())))
      else
       none
     else
      none
    else
     none := by kernel_rfl
/- (*convoy/client.Client).Fill -/
noncomputable def c21o : OCfg := ⟨21, Tryd.f21, ⟨47, 6, [(0, (.ptr 1 [])), (1, (.val (.int .i64))), (2, (.val (.int .i64))), (3, (.val (.agg (.pair (.int .i64) (.pair (.int .i64) (.pair (.agg (.pair (.int .i64) (.agg (.pair (.int .i64) (.pair (.int .i64) (.int .i64)))))) (.int .i64)))))))], [(1, .box (.agg (.pair (.val (.sl 29 (.agg (.pair (.int .i64) (.pair (.agg (.pair (.int .u16) .str)) (.pair (.int .i64) (.int .i64))))))) (.pair (.val (.int .i64)) (.pair (.val (.int .i64)) (.pair (.rs 100002) (.val (.arr 16 (.agg (.pair (.int .i64) (.pair (.int .i64) (.agg (.pair (.int .i64) (.pair (.int .i64) (.pair (.agg (.pair (.int .i64) (.agg (.pair (.int .i64) (.pair (.int .i64) (.int .i64)))))) (.int .i64)))))))))))))))), (100002, .row 48 (.agg (.pair (.int .i64) (.pair (.int .i64) (.pair (.agg (.pair (.int .i64) (.agg (.pair (.int .i64) (.pair (.int .i64) (.int .i64)))))) (.int .i64))))))]⟩, [⟨1, 2, [(0, (.val .bool))], [(1, .box (.agg (.pair (.val (.sl 29 (.agg (.pair (.int .i64) (.pair (.agg (.pair (.int .u16) .str)) (.pair (.int .i64) (.int .i64))))))) (.pair (.val (.int .i64)) (.pair (.val (.int .i64)) (.pair (.rs 100002) (.val (.arr 16 (.agg (.pair (.int .i64) (.pair (.int .i64) (.agg (.pair (.int .i64) (.pair (.int .i64) (.pair (.agg (.pair (.int .i64) (.agg (.pair (.int .i64) (.pair (.int .i64) (.int .i64)))))) (.int .i64)))))))))))))))), (100002, .row 48 (.agg (.pair (.int .i64) (.pair (.int .i64) (.pair (.agg (.pair (.int .i64) (.agg (.pair (.int .i64) (.pair (.int .i64) (.int .i64)))))) (.int .i64))))))]⟩], [], []⟩
noncomputable def T21o (n : Nat) : Tab := ⟨[], [e36o n]⟩
noncomputable def e21o (n : Nat) : OE := c21o.entry Tryd.prog (T21o n) n
theorem ok21o {W0 : World} (n : Nat) : OOK Tryd.prog W0 (e21o n) := c21o.sound (.ocons (ok36o n) .nil) n Tryd.func21 (by kernel_rfl) (by kernel_rfl)
noncomputable def f21o (n : Nat) (slot : Int) (caller : Int) (g : (Int × (Int × ((Int × (Int × (Int × Int))) × Int)))) (b1a : List (Int × ((Int × ByteArray) × (Int × Int)))) (b1ba : Int) (b1bba : Int) (b1bbbb : List (Int × (Int × (Int × (Int × ((Int × (Int × (Int × Int))) × Int)))))) (l100002 : List (Int × (Int × ((Int × (Int × (Int × Int))) × Int)))) : Option ((Bool × ((List (Int × ((Int × ByteArray) × (Int × Int))) × (Int × (Int × (Unit × List (Int × (Int × (Int × (Int × ((Int × (Int × (Int × Int))) × Int))))))))) × (List (Int × (Int × ((Int × (Int × (Int × Int))) × Int))) × Unit)))) := c21o.f Tryd.prog (T21o n) n ((), slot, caller, g) ((b1a, (b1ba, (b1bba, ((), b1bbbb)))), l100002, ())
theorem f21o_eq (n : Nat) (slot : Int) (caller : Int) (g : (Int × (Int × ((Int × (Int × (Int × Int))) × Int)))) (b1a : List (Int × ((Int × ByteArray) × (Int × Int)))) (b1ba : Int) (b1bba : Int) (b1bbbb : List (Int × (Int × (Int × (Int × ((Int × (Int × (Int × Int))) × Int)))))) (l100002 : List (Int × (Int × ((Int × (Int × (Int × Int))) × Int)))) : f21o n slot caller g b1a b1ba b1bba b1bbbb l100002 =
  (f36o n slot b1a b1ba b1bba b1bbbb l100002).bind fun r1 =>
  bif r1.fst != (0 : Int) then
   some ((false, ((r1.snd.fst.fst, (r1.snd.fst.snd.fst, (r1.snd.fst.snd.snd.fst, ((), r1.snd.fst.snd.snd.snd.snd)))), r1.snd.snd.fst, ())))
  else
   bif decide ((0 : Int) ≤ slot ∧ slot < ↑(16 : Nat)) then
    bif (List.getD r1.snd.fst.snd.snd.snd.snd slot.toNat ((0 : Int), (0 : Int), (0 : Int), (0 : Int), ((0 : Int), (0 : Int), (0 : Int), (0 : Int)), (0 : Int))).fst != (2 : Int) then
     some ((false, ((r1.snd.fst.fst, (r1.snd.fst.snd.fst, (r1.snd.fst.snd.snd.fst, ((), r1.snd.fst.snd.snd.snd.snd)))), r1.snd.snd.fst, ())))
    else
     bif decide ((0 : Int) ≤ slot ∧ slot < ↑(16 : Nat)) then
      bif (List.getD r1.snd.fst.snd.snd.snd.snd slot.toNat ((0 : Int), (0 : Int), (0 : Int), (0 : Int), ((0 : Int), (0 : Int), (0 : Int), (0 : Int)), (0 : Int))).snd.fst != caller then
       some ((false, ((r1.snd.fst.fst, (r1.snd.fst.snd.fst, (r1.snd.fst.snd.snd.fst, ((), r1.snd.fst.snd.snd.snd.snd)))), r1.snd.snd.fst, ())))
      else
       bif decide ((0 : Int) ≤ slot ∧ slot < ↑(16 : Nat)) then
        bif decide ((0 : Int) ≤ slot ∧ slot < ↑(16 : Nat)) then
         some ((true, ((r1.snd.fst.fst, (r1.snd.fst.snd.fst, (r1.snd.fst.snd.snd.fst, ((), (List.set r1.snd.fst.snd.snd.snd.snd slot.toNat ((3 : Int), (List.getD r1.snd.fst.snd.snd.snd.snd slot.toNat ((0 : Int), (0 : Int), (0 : Int), (0 : Int), ((0 : Int), (0 : Int), (0 : Int), (0 : Int)), (0 : Int))).snd)).set slot.toNat (((List.set r1.snd.fst.snd.snd.snd.snd slot.toNat ((3 : Int), (List.getD r1.snd.fst.snd.snd.snd.snd slot.toNat ((0 : Int), (0 : Int), (0 : Int), (0 : Int), ((0 : Int), (0 : Int), (0 : Int), (0 : Int)), (0 : Int))).snd)).getD slot.toNat ((0 : Int), (0 : Int), (0 : Int), (0 : Int), ((0 : Int), (0 : Int), (0 : Int), (0 : Int)), (0 : Int))).fst, ((List.set r1.snd.fst.snd.snd.snd.snd slot.toNat ((3 : Int), (List.getD r1.snd.fst.snd.snd.snd.snd slot.toNat ((0 : Int), (0 : Int), (0 : Int), (0 : Int), ((0 : Int), (0 : Int), (0 : Int), (0 : Int)), (0 : Int))).snd)).getD slot.toNat ((0 : Int), (0 : Int), (0 : Int), (0 : Int), ((0 : Int), (0 : Int), (0 : Int), (0 : Int)), (0 : Int))).snd.fst, g))))), r1.snd.snd.fst, ())))
        else
         none
       else
        none
     else
      none
   else
    none := by kernel_rfl
/- (*convoy/client.Client).Take -/
noncomputable def c16o : OCfg := ⟨16, Tryd.f16, ⟨43, 6, [(0, (.ptr 1 [])), (1, (.val (.int .i64)))], [(1, .box (.agg (.pair (.val (.sl 29 (.agg (.pair (.int .i64) (.pair (.agg (.pair (.int .u16) .str)) (.pair (.int .i64) (.int .i64))))))) (.pair (.val (.int .i64)) (.pair (.val (.int .i64)) (.pair (.rs 100002) (.val (.arr 16 (.agg (.pair (.int .i64) (.pair (.int .i64) (.agg (.pair (.int .i64) (.pair (.int .i64) (.pair (.agg (.pair (.int .i64) (.agg (.pair (.int .i64) (.pair (.int .i64) (.int .i64)))))) (.int .i64)))))))))))))))), (100002, .row 48 (.agg (.pair (.int .i64) (.pair (.int .i64) (.pair (.agg (.pair (.int .i64) (.agg (.pair (.int .i64) (.pair (.int .i64) (.int .i64)))))) (.int .i64))))))]⟩, [⟨3, 3, [(0, (.val (.agg (.pair (.int .i64) (.pair (.int .i64) (.pair (.agg (.pair (.int .i64) (.agg (.pair (.int .i64) (.pair (.int .i64) (.int .i64)))))) (.int .i64))))))), (1, (.val (.int .i64))), (2, (.val (.int .i64)))], [(1, .box (.agg (.pair (.val (.sl 29 (.agg (.pair (.int .i64) (.pair (.agg (.pair (.int .u16) .str)) (.pair (.int .i64) (.int .i64))))))) (.pair (.val (.int .i64)) (.pair (.val (.int .i64)) (.pair (.rs 100002) (.val (.arr 16 (.agg (.pair (.int .i64) (.pair (.int .i64) (.agg (.pair (.int .i64) (.pair (.int .i64) (.pair (.agg (.pair (.int .i64) (.agg (.pair (.int .i64) (.pair (.int .i64) (.int .i64)))))) (.int .i64)))))))))))))))), (100002, .row 48 (.agg (.pair (.int .i64) (.pair (.int .i64) (.pair (.agg (.pair (.int .i64) (.agg (.pair (.int .i64) (.pair (.int .i64) (.int .i64)))))) (.int .i64))))))]⟩], [], []⟩
noncomputable def T16o (n : Nat) : Tab := ⟨[], [e36o n]⟩
noncomputable def e16o (n : Nat) : OE := c16o.entry Tryd.prog (T16o n) n
theorem ok16o {W0 : World} (n : Nat) : OOK Tryd.prog W0 (e16o n) := c16o.sound (.ocons (ok36o n) .nil) n Tryd.func16 (by kernel_rfl) (by kernel_rfl)
noncomputable def f16o (n : Nat) (slot : Int) (b1a : List (Int × ((Int × ByteArray) × (Int × Int)))) (b1ba : Int) (b1bba : Int) (b1bbbb : List (Int × (Int × (Int × (Int × ((Int × (Int × (Int × Int))) × Int)))))) (l100002 : List (Int × (Int × ((Int × (Int × (Int × Int))) × Int)))) : Option ((((Int × (Int × ((Int × (Int × (Int × Int))) × Int))) × (Int × Int)) × ((List (Int × ((Int × ByteArray) × (Int × Int))) × (Int × (Int × (Unit × List (Int × (Int × (Int × (Int × ((Int × (Int × (Int × Int))) × Int))))))))) × (List (Int × (Int × ((Int × (Int × (Int × Int))) × Int))) × Unit)))) := c16o.f Tryd.prog (T16o n) n ((), slot) ((b1a, (b1ba, (b1bba, ((), b1bbbb)))), l100002, ())
theorem f16o_eq (n : Nat) (slot : Int) (b1a : List (Int × ((Int × ByteArray) × (Int × Int)))) (b1ba : Int) (b1bba : Int) (b1bbbb : List (Int × (Int × (Int × (Int × ((Int × (Int × (Int × Int))) × Int)))))) (l100002 : List (Int × (Int × ((Int × (Int × (Int × Int))) × Int)))) : f16o n slot b1a b1ba b1bba b1bbbb l100002 =
  (f36o n slot b1a b1ba b1bba b1bbbb l100002).bind fun r1 =>
  bif r1.fst != (0 : Int) then
   some (((((0 : Int), (0 : Int), ((0 : Int), (0 : Int), (0 : Int), (0 : Int)), (0 : Int)), (0 : Int), r1.fst), ((r1.snd.fst.fst, (r1.snd.fst.snd.fst, (r1.snd.fst.snd.snd.fst, ((), r1.snd.fst.snd.snd.snd.snd)))), r1.snd.snd.fst, ())))
  else
   bif decide ((0 : Int) ≤ slot ∧ slot < ↑(16 : Nat)) then
    bif (List.getD r1.snd.fst.snd.snd.snd.snd slot.toNat ((0 : Int), (0 : Int), (0 : Int), (0 : Int), ((0 : Int), (0 : Int), (0 : Int), (0 : Int)), (0 : Int))).fst != (3 : Int) then
     some (((((0 : Int), (0 : Int), ((0 : Int), (0 : Int), (0 : Int), (0 : Int)), (0 : Int)), (List.getD r1.snd.fst.snd.snd.snd.snd slot.toNat ((0 : Int), (0 : Int), (0 : Int), (0 : Int), ((0 : Int), (0 : Int), (0 : Int), (0 : Int)), (0 : Int))).fst, (0 : Int)), ((r1.snd.fst.fst, (r1.snd.fst.snd.fst, (r1.snd.fst.snd.snd.fst, ((), r1.snd.fst.snd.snd.snd.snd)))), r1.snd.snd.fst, ())))
    else
     bif decide ((0 : Int) ≤ slot ∧ slot < ↑(16 : Nat)) then
      bif decide ((0 : Int) ≤ slot ∧ slot < ↑(16 : Nat)) then
       some ((((List.getD r1.snd.fst.snd.snd.snd.snd slot.toNat ((0 : Int), (0 : Int), (0 : Int), (0 : Int), ((0 : Int), (0 : Int), (0 : Int), (0 : Int)), (0 : Int))).snd.snd, (3 : Int), (0 : Int)), ((r1.snd.fst.fst, (r1.snd.fst.snd.fst, (r1.snd.fst.snd.snd.fst, ((), (List.set r1.snd.fst.snd.snd.snd.snd slot.toNat ((1 : Int), (List.getD r1.snd.fst.snd.snd.snd.snd slot.toNat ((0 : Int), (0 : Int), (0 : Int), (0 : Int), ((0 : Int), (0 : Int), (0 : Int), (0 : Int)), (0 : Int))).snd)).set slot.toNat (((List.set r1.snd.fst.snd.snd.snd.snd slot.toNat ((1 : Int), (List.getD r1.snd.fst.snd.snd.snd.snd slot.toNat ((0 : Int), (0 : Int), (0 : Int), (0 : Int), ((0 : Int), (0 : Int), (0 : Int), (0 : Int)), (0 : Int))).snd)).getD slot.toNat ((0 : Int), (0 : Int), (0 : Int), (0 : Int), ((0 : Int), (0 : Int), (0 : Int), (0 : Int)), (0 : Int))).fst, ((List.set r1.snd.fst.snd.snd.snd.snd slot.toNat ((1 : Int), (List.getD r1.snd.fst.snd.snd.snd.snd slot.toNat ((0 : Int), (0 : Int), (0 : Int), (0 : Int), ((0 : Int), (0 : Int), (0 : Int), (0 : Int)), (0 : Int))).snd)).getD slot.toNat ((0 : Int), (0 : Int), (0 : Int), (0 : Int), ((0 : Int), (0 : Int), (0 : Int), (0 : Int)), (0 : Int))).snd.fst, (0 : Int), (0 : Int), ((0 : Int), (0 : Int), (0 : Int), (0 : Int)), (0 : Int)))))), r1.snd.snd.fst, ())))
      else
       none
     else
      none
   else
    none := by kernel_rfl
/- (*convoy/client.Client).Clone -/
noncomputable def c22o : OCfg := ⟨22, Tryd.f22, ⟨21, 5, [(0, (.ptr 1 []))], [(1, .box (.agg (.pair (.val (.sl 29 (.agg (.pair (.int .i64) (.pair (.agg (.pair (.int .u16) .str)) (.pair (.int .i64) (.int .i64))))))) (.pair (.val (.int .i64)) (.pair (.val (.int .i64)) (.pair (.rs 100002) (.val (.arr 16 (.agg (.pair (.int .i64) (.pair (.int .i64) (.agg (.pair (.int .i64) (.pair (.int .i64) (.pair (.agg (.pair (.int .i64) (.agg (.pair (.int .i64) (.pair (.int .i64) (.int .i64)))))) (.int .i64)))))))))))))))), (100002, .row 48 (.agg (.pair (.int .i64) (.pair (.int .i64) (.pair (.agg (.pair (.int .i64) (.agg (.pair (.int .i64) (.pair (.int .i64) (.int .i64)))))) (.int .i64))))))]⟩, [⟨1, 2, [(0, (.ptr 1003 []))], [(1, .box (.agg (.pair (.val (.sl 29 (.agg (.pair (.int .i64) (.pair (.agg (.pair (.int .u16) .str)) (.pair (.int .i64) (.int .i64))))))) (.pair (.val (.int .i64)) (.pair (.val (.int .i64)) (.pair (.rs 100002) (.val (.arr 16 (.agg (.pair (.int .i64) (.pair (.int .i64) (.agg (.pair (.int .i64) (.pair (.int .i64) (.pair (.agg (.pair (.int .i64) (.agg (.pair (.int .i64) (.pair (.int .i64) (.int .i64)))))) (.int .i64)))))))))))))))), (1003, .box (.agg (.pair (.val (.sl 29 (.agg (.pair (.int .i64) (.pair (.agg (.pair (.int .u16) .str)) (.pair (.int .i64) (.int .i64))))))) (.pair (.val (.int .i64)) (.pair (.val (.int .i64)) (.pair (.rs 101005) (.val (.arr 16 (.agg (.pair (.int .i64) (.pair (.int .i64) (.agg (.pair (.int .i64) (.pair (.int .i64) (.pair (.agg (.pair (.int .i64) (.agg (.pair (.int .i64) (.pair (.int .i64) (.int .i64)))))) (.int .i64)))))))))))))))), (100002, .row 48 (.agg (.pair (.int .i64) (.pair (.int .i64) (.pair (.agg (.pair (.int .i64) (.agg (.pair (.int .i64) (.pair (.int .i64) (.int .i64)))))) (.int .i64)))))), (101005, .row 48 (.agg (.pair (.int .i64) (.pair (.int .i64) (.pair (.agg (.pair (.int .i64) (.agg (.pair (.int .i64) (.pair (.int .i64) (.int .i64)))))) (.int .i64))))))]⟩], [], []⟩
noncomputable def T22o (n : Nat) : Tab := ⟨[e31 n], [e35o n]⟩
noncomputable def e22o (n : Nat) : OE := c22o.entry Tryd.prog (T22o n) n
theorem ok22o {W0 : World} (n : Nat) : OOK Tryd.prog W0 (e22o n) := c22o.sound (.cons (ok31 n) (.ocons (ok35o n) .nil)) n Tryd.func22 (by kernel_rfl) (by kernel_rfl)
noncomputable def f22o (n : Nat) (b1a : List (Int × ((Int × ByteArray) × (Int × Int)))) (b1ba : Int) (b1bba : Int) (b1bbbb : List (Int × (Int × (Int × (Int × ((Int × (Int × (Int × Int))) × Int)))))) (l100002 : List (Int × (Int × ((Int × (Int × (Int × Int))) × Int)))) : Option ((Unit × ((List (Int × ((Int × ByteArray) × (Int × Int))) × (Int × (Int × (Unit × List (Int × (Int × (Int × (Int × ((Int × (Int × (Int × Int))) × Int))))))))) × ((List (Int × ((Int × ByteArray) × (Int × Int))) × (Int × (Int × (Unit × List (Int × (Int × (Int × (Int × ((Int × (Int × (Int × Int))) × Int))))))))) × (List (Int × (Int × ((Int × (Int × (Int × Int))) × Int))) × (List (Int × (Int × ((Int × (Int × (Int × Int))) × Int))) × Unit)))))) := c22o.f Tryd.prog (T22o n) n () ((b1a, (b1ba, (b1bba, ((), b1bbbb)))), l100002, ())
theorem f22o_eq (n : Nat) (b1a : List (Int × ((Int × ByteArray) × (Int × Int)))) (b1ba : Int) (b1bba : Int) (b1bbbb : List (Int × (Int × (Int × (Int × ((Int × (Int × (Int × Int))) × Int)))))) (l100002 : List (Int × (Int × ((Int × (Int × (Int × Int))) × Int)))) : f22o n b1a b1ba b1bba b1bbbb l100002 =
  (f31 n b1a).bind fun r1 =>
  (f35o n l100002).bind fun r2 =>
  some (((), ((b1a, (b1ba, (b1bba, ((), b1bbbb)))), (r1, (b1ba, (b1bba, ((), b1bbbb)))), l100002, r2.snd.fst, ()))) := by kernel_rfl
/- convoy/convoylaw21.one -/
noncomputable def c12o : OCfg := ⟨12, Tryd.f12, ⟨256, 8, [(0, (.ptr 1 [])), (1, (.agg (.pair (.rs 100003) (.pair (.val (.int .i64)) (.pair (.val (.int .i64)) (.pair (.rs 100004) (.val (.pair (.arr 16 (.int .i64)) (.pair (.arr 16 (.int .i64)) (.arr 16 (.agg (.pair (.int .i64) (.pair (.int .i64) (.pair (.agg (.pair (.int .i64) (.agg (.pair (.int .i64) (.pair (.int .i64) (.int .i64)))))) (.int .i64))))))))))))))), (2, (.val (.agg (.pair (.int .i64) (.pair (.int .i64) (.pair (.int .i64) (.agg (.pair (.int .i64) (.pair (.int .i64) (.pair (.agg (.pair (.int .i64) (.agg (.pair (.int .i64) (.pair (.int .i64) (.int .i64)))))) (.int .i64)))))))))))], [(1, .box (.agg (.pair (.val (.sl 29 (.agg (.pair (.int .i64) (.pair (.agg (.pair (.int .u16) .str)) (.pair (.int .i64) (.int .i64))))))) (.pair (.val (.int .i64)) (.pair (.val (.int .i64)) (.pair (.rs 100002) (.val (.arr 16 (.agg (.pair (.int .i64) (.pair (.int .i64) (.agg (.pair (.int .i64) (.pair (.int .i64) (.pair (.agg (.pair (.int .i64) (.agg (.pair (.int .i64) (.pair (.int .i64) (.int .i64)))))) (.int .i64)))))))))))))))), (100002, .row 48 (.agg (.pair (.int .i64) (.pair (.int .i64) (.pair (.agg (.pair (.int .i64) (.agg (.pair (.int .i64) (.pair (.int .i64) (.int .i64)))))) (.int .i64)))))), (100003, .row 29 (.agg (.pair (.int .i64) (.pair (.agg (.pair (.int .u16) .str)) (.pair (.int .i64) (.int .i64)))))), (100004, .row 48 (.agg (.pair (.int .i64) (.pair (.int .i64) (.pair (.agg (.pair (.int .i64) (.agg (.pair (.int .i64) (.pair (.int .i64) (.int .i64)))))) (.int .i64))))))]⟩, [⟨3, 3, [(0, (.ptr 1 [])), (1, (.agg (.pair (.rs 100003) (.pair (.val (.int .i64)) (.pair (.val (.int .i64)) (.pair (.rs 100004) (.val (.pair (.arr 16 (.int .i64)) (.pair (.arr 16 (.int .i64)) (.arr 16 (.agg (.pair (.int .i64) (.pair (.int .i64) (.pair (.agg (.pair (.int .i64) (.agg (.pair (.int .i64) (.pair (.int .i64) (.int .i64)))))) (.int .i64))))))))))))))), (2, (.val .bool))], [(1, .box (.agg (.pair (.val (.sl 29 (.agg (.pair (.int .i64) (.pair (.agg (.pair (.int .u16) .str)) (.pair (.int .i64) (.int .i64))))))) (.pair (.val (.int .i64)) (.pair (.val (.int .i64)) (.pair (.rs 100002) (.val (.arr 16 (.agg (.pair (.int .i64) (.pair (.int .i64) (.agg (.pair (.int .i64) (.pair (.int .i64) (.pair (.agg (.pair (.int .i64) (.agg (.pair (.int .i64) (.pair (.int .i64) (.int .i64)))))) (.int .i64)))))))))))))))), (100002, .row 48 (.agg (.pair (.int .i64) (.pair (.int .i64) (.pair (.agg (.pair (.int .i64) (.agg (.pair (.int .i64) (.pair (.int .i64) (.int .i64)))))) (.int .i64)))))), (100003, .row 29 (.agg (.pair (.int .i64) (.pair (.agg (.pair (.int .u16) .str)) (.pair (.int .i64) (.int .i64)))))), (100004, .row 48 (.agg (.pair (.int .i64) (.pair (.int .i64) (.pair (.agg (.pair (.int .i64) (.agg (.pair (.int .i64) (.pair (.int .i64) (.int .i64)))))) (.int .i64))))))]⟩, ⟨3, 3, [(0, (.ptr 701707 [])), (1, (.agg (.pair (.rs 100003) (.pair (.val (.int .i64)) (.pair (.val (.int .i64)) (.pair (.rs 100004) (.val (.pair (.arr 16 (.int .i64)) (.pair (.arr 16 (.int .i64)) (.arr 16 (.agg (.pair (.int .i64) (.pair (.int .i64) (.pair (.agg (.pair (.int .i64) (.agg (.pair (.int .i64) (.pair (.int .i64) (.int .i64)))))) (.int .i64))))))))))))))), (2, (.val .bool))], [(1, .box (.agg (.pair (.val (.sl 29 (.agg (.pair (.int .i64) (.pair (.agg (.pair (.int .u16) .str)) (.pair (.int .i64) (.int .i64))))))) (.pair (.val (.int .i64)) (.pair (.val (.int .i64)) (.pair (.rs 100002) (.val (.arr 16 (.agg (.pair (.int .i64) (.pair (.int .i64) (.agg (.pair (.int .i64) (.pair (.int .i64) (.pair (.agg (.pair (.int .i64) (.agg (.pair (.int .i64) (.pair (.int .i64) (.int .i64)))))) (.int .i64)))))))))))))))), (100002, .row 48 (.agg (.pair (.int .i64) (.pair (.int .i64) (.pair (.agg (.pair (.int .i64) (.agg (.pair (.int .i64) (.pair (.int .i64) (.int .i64)))))) (.int .i64)))))), (100003, .row 29 (.agg (.pair (.int .i64) (.pair (.agg (.pair (.int .u16) .str)) (.pair (.int .i64) (.int .i64)))))), (100004, .row 48 (.agg (.pair (.int .i64) (.pair (.int .i64) (.pair (.agg (.pair (.int .i64) (.agg (.pair (.int .i64) (.pair (.int .i64) (.int .i64)))))) (.int .i64)))))), (701707, .box (.agg (.pair (.val (.sl 29 (.agg (.pair (.int .i64) (.pair (.agg (.pair (.int .u16) .str)) (.pair (.int .i64) (.int .i64))))))) (.pair (.val (.int .i64)) (.pair (.val (.int .i64)) (.pair (.rs 801709) (.val (.arr 16 (.agg (.pair (.int .i64) (.pair (.int .i64) (.agg (.pair (.int .i64) (.pair (.int .i64) (.pair (.agg (.pair (.int .i64) (.agg (.pair (.int .i64) (.pair (.int .i64) (.int .i64)))))) (.int .i64)))))))))))))))), (801709, .row 48 (.agg (.pair (.int .i64) (.pair (.int .i64) (.pair (.agg (.pair (.int .i64) (.agg (.pair (.int .i64) (.pair (.int .i64) (.int .i64)))))) (.int .i64))))))]⟩], [2, 11, 23, 28, 38], [(5, ⟨256, 8, [(0, (.ptr 1 [])), (4, (.ptr 1004 [])), (5, (.ptr 1005 [])), (6, .nilp), (7, (.ptr 1007 [])), (8, (.val .bool)), (9, (.val .bool))], [(1, .box (.agg (.pair (.val (.sl 29 (.agg (.pair (.int .i64) (.pair (.agg (.pair (.int .u16) .str)) (.pair (.int .i64) (.int .i64))))))) (.pair (.val (.int .i64)) (.pair (.val (.int .i64)) (.pair (.rs 100002) (.val (.arr 16 (.agg (.pair (.int .i64) (.pair (.int .i64) (.agg (.pair (.int .i64) (.pair (.int .i64) (.pair (.agg (.pair (.int .i64) (.agg (.pair (.int .i64) (.pair (.int .i64) (.int .i64)))))) (.int .i64)))))))))))))))), (1004, .box (.agg (.pair (.rs 100003) (.pair (.val (.int .i64)) (.pair (.val (.int .i64)) (.pair (.rs 100004) (.val (.pair (.arr 16 (.int .i64)) (.pair (.arr 16 (.int .i64)) (.arr 16 (.agg (.pair (.int .i64) (.pair (.int .i64) (.pair (.agg (.pair (.int .i64) (.agg (.pair (.int .i64) (.pair (.int .i64) (.int .i64)))))) (.int .i64))))))))))))))), (1005, .box (.val (.agg (.pair (.int .i64) (.pair (.int .i64) (.pair (.int .i64) (.agg (.pair (.int .i64) (.pair (.int .i64) (.pair (.agg (.pair (.int .i64) (.agg (.pair (.int .i64) (.pair (.int .i64) (.int .i64)))))) (.int .i64))))))))))), (1007, .box (.agg (.pair (.rs 700700) (.pair (.val (.int .i64)) (.pair (.val (.int .i64)) (.pair (.rs 700703) (.val (.pair (.arr 16 (.int .i64)) (.pair (.arr 16 (.int .i64)) (.arr 16 (.agg (.pair (.int .i64) (.pair (.int .i64) (.pair (.agg (.pair (.int .i64) (.agg (.pair (.int .i64) (.pair (.int .i64) (.int .i64)))))) (.int .i64))))))))))))))), (100002, .row 48 (.agg (.pair (.int .i64) (.pair (.int .i64) (.pair (.agg (.pair (.int .i64) (.agg (.pair (.int .i64) (.pair (.int .i64) (.int .i64)))))) (.int .i64)))))), (100003, .row 29 (.agg (.pair (.int .i64) (.pair (.agg (.pair (.int .u16) .str)) (.pair (.int .i64) (.int .i64)))))), (100004, .row 48 (.agg (.pair (.int .i64) (.pair (.int .i64) (.pair (.agg (.pair (.int .i64) (.agg (.pair (.int .i64) (.pair (.int .i64) (.int .i64)))))) (.int .i64)))))), (700700, .row 29 (.agg (.pair (.int .i64) (.pair (.agg (.pair (.int .u16) .str)) (.pair (.int .i64) (.int .i64)))))), (700703, .row 48 (.agg (.pair (.int .i64) (.pair (.int .i64) (.pair (.agg (.pair (.int .i64) (.agg (.pair (.int .i64) (.pair (.int .i64) (.int .i64)))))) (.int .i64))))))]⟩), (23, ⟨256, 8, [(0, (.ptr 1 [])), (4, (.ptr 1004 [])), (5, (.ptr 1005 [])), (6, .nilp), (7, (.ptr 1007 [])), (8, (.val .bool)), (12, (.val .bool))], [(1, .box (.agg (.pair (.val (.sl 29 (.agg (.pair (.int .i64) (.pair (.agg (.pair (.int .u16) .str)) (.pair (.int .i64) (.int .i64))))))) (.pair (.val (.int .i64)) (.pair (.val (.int .i64)) (.pair (.rs 100002) (.val (.arr 16 (.agg (.pair (.int .i64) (.pair (.int .i64) (.agg (.pair (.int .i64) (.pair (.int .i64) (.pair (.agg (.pair (.int .i64) (.agg (.pair (.int .i64) (.pair (.int .i64) (.int .i64)))))) (.int .i64)))))))))))))))), (1004, .box (.agg (.pair (.rs 100003) (.pair (.val (.int .i64)) (.pair (.val (.int .i64)) (.pair (.rs 100004) (.val (.pair (.arr 16 (.int .i64)) (.pair (.arr 16 (.int .i64)) (.arr 16 (.agg (.pair (.int .i64) (.pair (.int .i64) (.pair (.agg (.pair (.int .i64) (.agg (.pair (.int .i64) (.pair (.int .i64) (.int .i64)))))) (.int .i64))))))))))))))), (1005, .box (.val (.agg (.pair (.int .i64) (.pair (.int .i64) (.pair (.int .i64) (.agg (.pair (.int .i64) (.pair (.int .i64) (.pair (.agg (.pair (.int .i64) (.agg (.pair (.int .i64) (.pair (.int .i64) (.int .i64)))))) (.int .i64))))))))))), (1007, .box (.agg (.pair (.rs 700700) (.pair (.val (.int .i64)) (.pair (.val (.int .i64)) (.pair (.rs 700703) (.val (.pair (.arr 16 (.int .i64)) (.pair (.arr 16 (.int .i64)) (.arr 16 (.agg (.pair (.int .i64) (.pair (.int .i64) (.pair (.agg (.pair (.int .i64) (.agg (.pair (.int .i64) (.pair (.int .i64) (.int .i64)))))) (.int .i64))))))))))))))), (100002, .row 48 (.agg (.pair (.int .i64) (.pair (.int .i64) (.pair (.agg (.pair (.int .i64) (.agg (.pair (.int .i64) (.pair (.int .i64) (.int .i64)))))) (.int .i64)))))), (100003, .row 29 (.agg (.pair (.int .i64) (.pair (.agg (.pair (.int .u16) .str)) (.pair (.int .i64) (.int .i64)))))), (100004, .row 48 (.agg (.pair (.int .i64) (.pair (.int .i64) (.pair (.agg (.pair (.int .i64) (.agg (.pair (.int .i64) (.pair (.int .i64) (.int .i64)))))) (.int .i64)))))), (700700, .row 29 (.agg (.pair (.int .i64) (.pair (.agg (.pair (.int .u16) .str)) (.pair (.int .i64) (.int .i64)))))), (700703, .row 48 (.agg (.pair (.int .i64) (.pair (.int .i64) (.pair (.agg (.pair (.int .i64) (.agg (.pair (.int .i64) (.pair (.int .i64) (.int .i64)))))) (.int .i64))))))]⟩), (47, ⟨256, 8, [(0, (.ptr 1 [])), (4, (.ptr 1004 [])), (5, (.ptr 1005 [])), (6, .nilp), (7, (.ptr 1007 [])), (8, (.val .bool)), (14, (.val (.int .i64)))], [(1, .box (.agg (.pair (.val (.sl 29 (.agg (.pair (.int .i64) (.pair (.agg (.pair (.int .u16) .str)) (.pair (.int .i64) (.int .i64))))))) (.pair (.val (.int .i64)) (.pair (.val (.int .i64)) (.pair (.rs 100002) (.val (.arr 16 (.agg (.pair (.int .i64) (.pair (.int .i64) (.agg (.pair (.int .i64) (.pair (.int .i64) (.pair (.agg (.pair (.int .i64) (.agg (.pair (.int .i64) (.pair (.int .i64) (.int .i64)))))) (.int .i64)))))))))))))))), (1004, .box (.agg (.pair (.rs 100003) (.pair (.val (.int .i64)) (.pair (.val (.int .i64)) (.pair (.rs 100004) (.val (.pair (.arr 16 (.int .i64)) (.pair (.arr 16 (.int .i64)) (.arr 16 (.agg (.pair (.int .i64) (.pair (.int .i64) (.pair (.agg (.pair (.int .i64) (.agg (.pair (.int .i64) (.pair (.int .i64) (.int .i64)))))) (.int .i64))))))))))))))), (1005, .box (.val (.agg (.pair (.int .i64) (.pair (.int .i64) (.pair (.int .i64) (.agg (.pair (.int .i64) (.pair (.int .i64) (.pair (.agg (.pair (.int .i64) (.agg (.pair (.int .i64) (.pair (.int .i64) (.int .i64)))))) (.int .i64))))))))))), (1007, .box (.agg (.pair (.rs 700700) (.pair (.val (.int .i64)) (.pair (.val (.int .i64)) (.pair (.rs 700703) (.val (.pair (.arr 16 (.int .i64)) (.pair (.arr 16 (.int .i64)) (.arr 16 (.agg (.pair (.int .i64) (.pair (.int .i64) (.pair (.agg (.pair (.int .i64) (.agg (.pair (.int .i64) (.pair (.int .i64) (.int .i64)))))) (.int .i64))))))))))))))), (100002, .row 48 (.agg (.pair (.int .i64) (.pair (.int .i64) (.pair (.agg (.pair (.int .i64) (.agg (.pair (.int .i64) (.pair (.int .i64) (.int .i64)))))) (.int .i64)))))), (100003, .row 29 (.agg (.pair (.int .i64) (.pair (.agg (.pair (.int .u16) .str)) (.pair (.int .i64) (.int .i64)))))), (100004, .row 48 (.agg (.pair (.int .i64) (.pair (.int .i64) (.pair (.agg (.pair (.int .i64) (.agg (.pair (.int .i64) (.pair (.int .i64) (.int .i64)))))) (.int .i64)))))), (700700, .row 29 (.agg (.pair (.int .i64) (.pair (.agg (.pair (.int .u16) .str)) (.pair (.int .i64) (.int .i64)))))), (700703, .row 48 (.agg (.pair (.int .i64) (.pair (.int .i64) (.pair (.agg (.pair (.int .i64) (.agg (.pair (.int .i64) (.pair (.int .i64) (.int .i64)))))) (.int .i64))))))]⟩), (57, ⟨256, 8, [(0, (.ptr 1 [])), (4, (.ptr 1004 [])), (5, (.ptr 1005 [])), (6, .nilp), (7, (.ptr 1007 [])), (8, (.val .bool)), (15, (.val .bool))], [(1, .box (.agg (.pair (.val (.sl 29 (.agg (.pair (.int .i64) (.pair (.agg (.pair (.int .u16) .str)) (.pair (.int .i64) (.int .i64))))))) (.pair (.val (.int .i64)) (.pair (.val (.int .i64)) (.pair (.rs 100002) (.val (.arr 16 (.agg (.pair (.int .i64) (.pair (.int .i64) (.agg (.pair (.int .i64) (.pair (.int .i64) (.pair (.agg (.pair (.int .i64) (.agg (.pair (.int .i64) (.pair (.int .i64) (.int .i64)))))) (.int .i64)))))))))))))))), (1004, .box (.agg (.pair (.rs 100003) (.pair (.val (.int .i64)) (.pair (.val (.int .i64)) (.pair (.rs 100004) (.val (.pair (.arr 16 (.int .i64)) (.pair (.arr 16 (.int .i64)) (.arr 16 (.agg (.pair (.int .i64) (.pair (.int .i64) (.pair (.agg (.pair (.int .i64) (.agg (.pair (.int .i64) (.pair (.int .i64) (.int .i64)))))) (.int .i64))))))))))))))), (1005, .box (.val (.agg (.pair (.int .i64) (.pair (.int .i64) (.pair (.int .i64) (.agg (.pair (.int .i64) (.pair (.int .i64) (.pair (.agg (.pair (.int .i64) (.agg (.pair (.int .i64) (.pair (.int .i64) (.int .i64)))))) (.int .i64))))))))))), (1007, .box (.agg (.pair (.rs 700700) (.pair (.val (.int .i64)) (.pair (.val (.int .i64)) (.pair (.rs 700703) (.val (.pair (.arr 16 (.int .i64)) (.pair (.arr 16 (.int .i64)) (.arr 16 (.agg (.pair (.int .i64) (.pair (.int .i64) (.pair (.agg (.pair (.int .i64) (.agg (.pair (.int .i64) (.pair (.int .i64) (.int .i64)))))) (.int .i64))))))))))))))), (100002, .row 48 (.agg (.pair (.int .i64) (.pair (.int .i64) (.pair (.agg (.pair (.int .i64) (.agg (.pair (.int .i64) (.pair (.int .i64) (.int .i64)))))) (.int .i64)))))), (100003, .row 29 (.agg (.pair (.int .i64) (.pair (.agg (.pair (.int .u16) .str)) (.pair (.int .i64) (.int .i64)))))), (100004, .row 48 (.agg (.pair (.int .i64) (.pair (.int .i64) (.pair (.agg (.pair (.int .i64) (.agg (.pair (.int .i64) (.pair (.int .i64) (.int .i64)))))) (.int .i64)))))), (700700, .row 29 (.agg (.pair (.int .i64) (.pair (.agg (.pair (.int .u16) .str)) (.pair (.int .i64) (.int .i64)))))), (700703, .row 48 (.agg (.pair (.int .i64) (.pair (.int .i64) (.pair (.agg (.pair (.int .i64) (.agg (.pair (.int .i64) (.pair (.int .i64) (.int .i64)))))) (.int .i64))))))]⟩), (77, ⟨256, 8, [(0, (.ptr 1 [])), (4, (.ptr 1004 [])), (5, (.ptr 1005 [])), (6, .nilp), (7, (.ptr 1007 [])), (8, (.val .bool)), (16, (.ptr 1016 [])), (17, (.val (.int .i64))), (18, (.val (.int .i64))), (19, (.val (.int .i64)))], [(1, .box (.agg (.pair (.val (.sl 29 (.agg (.pair (.int .i64) (.pair (.agg (.pair (.int .u16) .str)) (.pair (.int .i64) (.int .i64))))))) (.pair (.val (.int .i64)) (.pair (.val (.int .i64)) (.pair (.rs 100002) (.val (.arr 16 (.agg (.pair (.int .i64) (.pair (.int .i64) (.agg (.pair (.int .i64) (.pair (.int .i64) (.pair (.agg (.pair (.int .i64) (.agg (.pair (.int .i64) (.pair (.int .i64) (.int .i64)))))) (.int .i64)))))))))))))))), (1004, .box (.agg (.pair (.rs 100003) (.pair (.val (.int .i64)) (.pair (.val (.int .i64)) (.pair (.rs 100004) (.val (.pair (.arr 16 (.int .i64)) (.pair (.arr 16 (.int .i64)) (.arr 16 (.agg (.pair (.int .i64) (.pair (.int .i64) (.pair (.agg (.pair (.int .i64) (.agg (.pair (.int .i64) (.pair (.int .i64) (.int .i64)))))) (.int .i64))))))))))))))), (1005, .box (.val (.agg (.pair (.int .i64) (.pair (.int .i64) (.pair (.int .i64) (.agg (.pair (.int .i64) (.pair (.int .i64) (.pair (.agg (.pair (.int .i64) (.agg (.pair (.int .i64) (.pair (.int .i64) (.int .i64)))))) (.int .i64))))))))))), (1007, .box (.agg (.pair (.rs 700700) (.pair (.val (.int .i64)) (.pair (.val (.int .i64)) (.pair (.rs 700703) (.val (.pair (.arr 16 (.int .i64)) (.pair (.arr 16 (.int .i64)) (.arr 16 (.agg (.pair (.int .i64) (.pair (.int .i64) (.pair (.agg (.pair (.int .i64) (.agg (.pair (.int .i64) (.pair (.int .i64) (.int .i64)))))) (.int .i64))))))))))))))), (1016, .box (.val (.agg (.pair (.int .i64) (.pair (.int .i64) (.pair (.agg (.pair (.int .i64) (.agg (.pair (.int .i64) (.pair (.int .i64) (.int .i64)))))) (.int .i64))))))), (100002, .row 48 (.agg (.pair (.int .i64) (.pair (.int .i64) (.pair (.agg (.pair (.int .i64) (.agg (.pair (.int .i64) (.pair (.int .i64) (.int .i64)))))) (.int .i64)))))), (100003, .row 29 (.agg (.pair (.int .i64) (.pair (.agg (.pair (.int .u16) .str)) (.pair (.int .i64) (.int .i64)))))), (100004, .row 48 (.agg (.pair (.int .i64) (.pair (.int .i64) (.pair (.agg (.pair (.int .i64) (.agg (.pair (.int .i64) (.pair (.int .i64) (.int .i64)))))) (.int .i64)))))), (700700, .row 29 (.agg (.pair (.int .i64) (.pair (.agg (.pair (.int .u16) .str)) (.pair (.int .i64) (.int .i64)))))), (700703, .row 48 (.agg (.pair (.int .i64) (.pair (.int .i64) (.pair (.agg (.pair (.int .i64) (.agg (.pair (.int .i64) (.pair (.int .i64) (.int .i64)))))) (.int .i64))))))]⟩)]⟩
noncomputable def T12o (n : Nat) : Tab := ⟨[e33 n, e34 n], [e17o n, e18o n, e19o n, e20o n, e21o n, e16o n, e22o n]⟩
noncomputable def e12o (n : Nat) : OE := c12o.entry Tryd.prog (T12o n) n
theorem ok12o {W0 : World} (n : Nat) : OOK Tryd.prog W0 (e12o n) := c12o.sound (.ocons (ok17o n) (.ocons (ok18o n) (.cons (ok33 n) (.cons (ok34 n) (.ocons (ok19o n) (.ocons (ok20o n) (.ocons (ok21o n) (.ocons (ok16o n) (.ocons (ok22o n) .nil))))))))) n Tryd.func12 (by kernel_rfl) (by kernel_rfl)
noncomputable def f12o (n : Nat) (sba : Int) (sbba : Int) (sbbbb : (List Int × (List Int × List (Int × (Int × ((Int × (Int × (Int × Int))) × Int)))))) (x : (Int × (Int × (Int × (Int × (Int × ((Int × (Int × (Int × Int))) × Int))))))) (b1a : List (Int × ((Int × ByteArray) × (Int × Int)))) (b1ba : Int) (b1bba : Int) (b1bbbb : List (Int × (Int × (Int × (Int × ((Int × (Int × (Int × Int))) × Int)))))) (l100002 : List (Int × (Int × ((Int × (Int × (Int × Int))) × Int)))) (l100003 : List (Int × ((Int × ByteArray) × (Int × Int)))) (l100004 : List (Int × (Int × ((Int × (Int × (Int × Int))) × Int)))) : Option ((((Unit × ((Unit × (Int × (Int × (Unit × (List Int × (List Int × List (Int × (Int × ((Int × (Int × (Int × Int))) × Int))))))))) × Bool)) × ((List (Int × ((Int × ByteArray) × (Int × Int))) × (Int × (Int × (Unit × List (Int × (Int × (Int × (Int × ((Int × (Int × (Int × Int))) × Int))))))))) × (List (Int × (Int × ((Int × (Int × (Int × Int))) × Int))) × (List (Int × ((Int × ByteArray) × (Int × Int))) × (List (Int × (Int × ((Int × (Int × (Int × Int))) × Int))) × Unit))))) ⊕ ((Unit × ((Unit × (Int × (Int × (Unit × (List Int × (List Int × List (Int × (Int × ((Int × (Int × (Int × Int))) × Int))))))))) × Bool)) × ((List (Int × ((Int × ByteArray) × (Int × Int))) × (Int × (Int × (Unit × List (Int × (Int × (Int × (Int × ((Int × (Int × (Int × Int))) × Int))))))))) × (List (Int × (Int × ((Int × (Int × (Int × Int))) × Int))) × (List (Int × ((Int × ByteArray) × (Int × Int))) × (List (Int × (Int × ((Int × (Int × (Int × Int))) × Int))) × ((List (Int × ((Int × ByteArray) × (Int × Int))) × (Int × (Int × (Unit × List (Int × (Int × (Int × (Int × ((Int × (Int × (Int × Int))) × Int))))))))) × (List (Int × (Int × ((Int × (Int × (Int × Int))) × Int))) × Unit))))))))) := c12o.f Tryd.prog (T12o n) n ((), ((), (sba, (sbba, ((), sbbbb)))), x) ((b1a, (b1ba, (b1bba, ((), b1bbbb)))), l100002, l100003, l100004, ())
noncomputable def f12o_5 (n m : Nat) (x8 : Bool) (slot : Bool) (b1a : List (Int × ((Int × ByteArray) × (Int × Int)))) (b1ba : Int) (b1bba : Int) (b1bbbb : List (Int × (Int × (Int × (Int × ((Int × (Int × (Int × Int))) × Int)))))) (b1004ba : Int) (b1004bba : Int) (b1004bbbb : (List Int × (List Int × List (Int × (Int × ((Int × (Int × (Int × Int))) × Int)))))) (b1005 : (Int × (Int × (Int × (Int × (Int × ((Int × (Int × (Int × Int))) × Int))))))) (b1007ba : Int) (b1007bba : Int) (b1007bbbb : (List Int × (List Int × List (Int × (Int × ((Int × (Int × (Int × Int))) × Int)))))) (l100002 : List (Int × (Int × ((Int × (Int × (Int × Int))) × Int)))) (l100003 : List (Int × ((Int × ByteArray) × (Int × Int)))) (l100004 : List (Int × (Int × ((Int × (Int × (Int × Int))) × Int)))) (l700700 : List (Int × ((Int × ByteArray) × (Int × Int)))) (l700703 : List (Int × (Int × ((Int × (Int × (Int × Int))) × Int)))) : Option ((((Unit × ((Unit × (Int × (Int × (Unit × (List Int × (List Int × List (Int × (Int × ((Int × (Int × (Int × Int))) × Int))))))))) × Bool)) × ((List (Int × ((Int × ByteArray) × (Int × Int))) × (Int × (Int × (Unit × List (Int × (Int × (Int × (Int × ((Int × (Int × (Int × Int))) × Int))))))))) × (List (Int × (Int × ((Int × (Int × (Int × Int))) × Int))) × (List (Int × ((Int × ByteArray) × (Int × Int))) × (List (Int × (Int × ((Int × (Int × (Int × Int))) × Int))) × Unit))))) ⊕ ((Unit × ((Unit × (Int × (Int × (Unit × (List Int × (List Int × List (Int × (Int × ((Int × (Int × (Int × Int))) × Int))))))))) × Bool)) × ((List (Int × ((Int × ByteArray) × (Int × Int))) × (Int × (Int × (Unit × List (Int × (Int × (Int × (Int × ((Int × (Int × (Int × Int))) × Int))))))))) × (List (Int × (Int × ((Int × (Int × (Int × Int))) × Int))) × (List (Int × ((Int × ByteArray) × (Int × Int))) × (List (Int × (Int × ((Int × (Int × (Int × Int))) × Int))) × ((List (Int × ((Int × ByteArray) × (Int × Int))) × (Int × (Int × (Unit × List (Int × (Int × (Int × (Int × ((Int × (Int × (Int × Int))) × Int))))))))) × (List (Int × (Int × ((Int × (Int × (Int × Int))) × Int))) × Unit))))))))) := c12o.LL Tryd.prog (T12o n) m 5 ((), (), (), (), (), x8, slot) ((b1a, (b1ba, (b1bba, ((), b1bbbb)))), ((), (b1004ba, (b1004bba, ((), b1004bbbb)))), b1005, ((), (b1007ba, (b1007bba, ((), b1007bbbb)))), l100002, l100003, l100004, l700700, l700703, ())
noncomputable def f12o_23 (n m : Nat) (x8 : Bool) (is : Bool) (b1a : List (Int × ((Int × ByteArray) × (Int × Int)))) (b1ba : Int) (b1bba : Int) (b1bbbb : List (Int × (Int × (Int × (Int × ((Int × (Int × (Int × Int))) × Int)))))) (b1004ba : Int) (b1004bba : Int) (b1004bbbb : (List Int × (List Int × List (Int × (Int × ((Int × (Int × (Int × Int))) × Int)))))) (b1005 : (Int × (Int × (Int × (Int × (Int × ((Int × (Int × (Int × Int))) × Int))))))) (b1007ba : Int) (b1007bba : Int) (b1007bbbb : (List Int × (List Int × List (Int × (Int × ((Int × (Int × (Int × Int))) × Int)))))) (l100002 : List (Int × (Int × ((Int × (Int × (Int × Int))) × Int)))) (l100003 : List (Int × ((Int × ByteArray) × (Int × Int)))) (l100004 : List (Int × (Int × ((Int × (Int × (Int × Int))) × Int)))) (l700700 : List (Int × ((Int × ByteArray) × (Int × Int)))) (l700703 : List (Int × (Int × ((Int × (Int × (Int × Int))) × Int)))) : Option ((((Unit × ((Unit × (Int × (Int × (Unit × (List Int × (List Int × List (Int × (Int × ((Int × (Int × (Int × Int))) × Int))))))))) × Bool)) × ((List (Int × ((Int × ByteArray) × (Int × Int))) × (Int × (Int × (Unit × List (Int × (Int × (Int × (Int × ((Int × (Int × (Int × Int))) × Int))))))))) × (List (Int × (Int × ((Int × (Int × (Int × Int))) × Int))) × (List (Int × ((Int × ByteArray) × (Int × Int))) × (List (Int × (Int × ((Int × (Int × (Int × Int))) × Int))) × Unit))))) ⊕ ((Unit × ((Unit × (Int × (Int × (Unit × (List Int × (List Int × List (Int × (Int × ((Int × (Int × (Int × Int))) × Int))))))))) × Bool)) × ((List (Int × ((Int × ByteArray) × (Int × Int))) × (Int × (Int × (Unit × List (Int × (Int × (Int × (Int × ((Int × (Int × (Int × Int))) × Int))))))))) × (List (Int × (Int × ((Int × (Int × (Int × Int))) × Int))) × (List (Int × ((Int × ByteArray) × (Int × Int))) × (List (Int × (Int × ((Int × (Int × (Int × Int))) × Int))) × ((List (Int × ((Int × ByteArray) × (Int × Int))) × (Int × (Int × (Unit × List (Int × (Int × (Int × (Int × ((Int × (Int × (Int × Int))) × Int))))))))) × (List (Int × (Int × ((Int × (Int × (Int × Int))) × Int))) × Unit))))))))) := c12o.LL Tryd.prog (T12o n) m 23 ((), (), (), (), (), x8, is) ((b1a, (b1ba, (b1bba, ((), b1bbbb)))), ((), (b1004ba, (b1004bba, ((), b1004bbbb)))), b1005, ((), (b1007ba, (b1007bba, ((), b1007bbbb)))), l100002, l100003, l100004, l700700, l700703, ())
noncomputable def f12o_47 (n m : Nat) (x8 : Bool) (e : Int) (b1a : List (Int × ((Int × ByteArray) × (Int × Int)))) (b1ba : Int) (b1bba : Int) (b1bbbb : List (Int × (Int × (Int × (Int × ((Int × (Int × (Int × Int))) × Int)))))) (b1004ba : Int) (b1004bba : Int) (b1004bbbb : (List Int × (List Int × List (Int × (Int × ((Int × (Int × (Int × Int))) × Int)))))) (b1005 : (Int × (Int × (Int × (Int × (Int × ((Int × (Int × (Int × Int))) × Int))))))) (b1007ba : Int) (b1007bba : Int) (b1007bbbb : (List Int × (List Int × List (Int × (Int × ((Int × (Int × (Int × Int))) × Int)))))) (l100002 : List (Int × (Int × ((Int × (Int × (Int × Int))) × Int)))) (l100003 : List (Int × ((Int × ByteArray) × (Int × Int)))) (l100004 : List (Int × (Int × ((Int × (Int × (Int × Int))) × Int)))) (l700700 : List (Int × ((Int × ByteArray) × (Int × Int)))) (l700703 : List (Int × (Int × ((Int × (Int × (Int × Int))) × Int)))) : Option ((((Unit × ((Unit × (Int × (Int × (Unit × (List Int × (List Int × List (Int × (Int × ((Int × (Int × (Int × Int))) × Int))))))))) × Bool)) × ((List (Int × ((Int × ByteArray) × (Int × Int))) × (Int × (Int × (Unit × List (Int × (Int × (Int × (Int × ((Int × (Int × (Int × Int))) × Int))))))))) × (List (Int × (Int × ((Int × (Int × (Int × Int))) × Int))) × (List (Int × ((Int × ByteArray) × (Int × Int))) × (List (Int × (Int × ((Int × (Int × (Int × Int))) × Int))) × Unit))))) ⊕ ((Unit × ((Unit × (Int × (Int × (Unit × (List Int × (List Int × List (Int × (Int × ((Int × (Int × (Int × Int))) × Int))))))))) × Bool)) × ((List (Int × ((Int × ByteArray) × (Int × Int))) × (Int × (Int × (Unit × List (Int × (Int × (Int × (Int × ((Int × (Int × (Int × Int))) × Int))))))))) × (List (Int × (Int × ((Int × (Int × (Int × Int))) × Int))) × (List (Int × ((Int × ByteArray) × (Int × Int))) × (List (Int × (Int × ((Int × (Int × (Int × Int))) × Int))) × ((List (Int × ((Int × ByteArray) × (Int × Int))) × (Int × (Int × (Unit × List (Int × (Int × (Int × (Int × ((Int × (Int × (Int × Int))) × Int))))))))) × (List (Int × (Int × ((Int × (Int × (Int × Int))) × Int))) × Unit))))))))) := c12o.LL Tryd.prog (T12o n) m 47 ((), (), (), (), (), x8, e) ((b1a, (b1ba, (b1bba, ((), b1bbbb)))), ((), (b1004ba, (b1004bba, ((), b1004bbbb)))), b1005, ((), (b1007ba, (b1007bba, ((), b1007bbbb)))), l100002, l100003, l100004, l700700, l700703, ())
noncomputable def f12o_57 (n m : Nat) (x8 : Bool) (is : Bool) (b1a : List (Int × ((Int × ByteArray) × (Int × Int)))) (b1ba : Int) (b1bba : Int) (b1bbbb : List (Int × (Int × (Int × (Int × ((Int × (Int × (Int × Int))) × Int)))))) (b1004ba : Int) (b1004bba : Int) (b1004bbbb : (List Int × (List Int × List (Int × (Int × ((Int × (Int × (Int × Int))) × Int)))))) (b1005 : (Int × (Int × (Int × (Int × (Int × ((Int × (Int × (Int × Int))) × Int))))))) (b1007ba : Int) (b1007bba : Int) (b1007bbbb : (List Int × (List Int × List (Int × (Int × ((Int × (Int × (Int × Int))) × Int)))))) (l100002 : List (Int × (Int × ((Int × (Int × (Int × Int))) × Int)))) (l100003 : List (Int × ((Int × ByteArray) × (Int × Int)))) (l100004 : List (Int × (Int × ((Int × (Int × (Int × Int))) × Int)))) (l700700 : List (Int × ((Int × ByteArray) × (Int × Int)))) (l700703 : List (Int × (Int × ((Int × (Int × (Int × Int))) × Int)))) : Option ((((Unit × ((Unit × (Int × (Int × (Unit × (List Int × (List Int × List (Int × (Int × ((Int × (Int × (Int × Int))) × Int))))))))) × Bool)) × ((List (Int × ((Int × ByteArray) × (Int × Int))) × (Int × (Int × (Unit × List (Int × (Int × (Int × (Int × ((Int × (Int × (Int × Int))) × Int))))))))) × (List (Int × (Int × ((Int × (Int × (Int × Int))) × Int))) × (List (Int × ((Int × ByteArray) × (Int × Int))) × (List (Int × (Int × ((Int × (Int × (Int × Int))) × Int))) × Unit))))) ⊕ ((Unit × ((Unit × (Int × (Int × (Unit × (List Int × (List Int × List (Int × (Int × ((Int × (Int × (Int × Int))) × Int))))))))) × Bool)) × ((List (Int × ((Int × ByteArray) × (Int × Int))) × (Int × (Int × (Unit × List (Int × (Int × (Int × (Int × ((Int × (Int × (Int × Int))) × Int))))))))) × (List (Int × (Int × ((Int × (Int × (Int × Int))) × Int))) × (List (Int × ((Int × ByteArray) × (Int × Int))) × (List (Int × (Int × ((Int × (Int × (Int × Int))) × Int))) × ((List (Int × ((Int × ByteArray) × (Int × Int))) × (Int × (Int × (Unit × List (Int × (Int × (Int × (Int × ((Int × (Int × (Int × Int))) × Int))))))))) × (List (Int × (Int × ((Int × (Int × (Int × Int))) × Int))) × Unit))))))))) := c12o.LL Tryd.prog (T12o n) m 57 ((), (), (), (), (), x8, is) ((b1a, (b1ba, (b1bba, ((), b1bbbb)))), ((), (b1004ba, (b1004bba, ((), b1004bbbb)))), b1005, ((), (b1007ba, (b1007bba, ((), b1007bbbb)))), l100002, l100003, l100004, l700700, l700703, ())
noncomputable def f12o_77 (n m : Nat) (x8 : Bool) (how : Int) (e : Int) (is : Int) (b1a : List (Int × ((Int × ByteArray) × (Int × Int)))) (b1ba : Int) (b1bba : Int) (b1bbbb : List (Int × (Int × (Int × (Int × ((Int × (Int × (Int × Int))) × Int)))))) (b1004ba : Int) (b1004bba : Int) (b1004bbbb : (List Int × (List Int × List (Int × (Int × ((Int × (Int × (Int × Int))) × Int)))))) (b1005 : (Int × (Int × (Int × (Int × (Int × ((Int × (Int × (Int × Int))) × Int))))))) (b1007ba : Int) (b1007bba : Int) (b1007bbbb : (List Int × (List Int × List (Int × (Int × ((Int × (Int × (Int × Int))) × Int)))))) (b1016 : (Int × (Int × ((Int × (Int × (Int × Int))) × Int)))) (l100002 : List (Int × (Int × ((Int × (Int × (Int × Int))) × Int)))) (l100003 : List (Int × ((Int × ByteArray) × (Int × Int)))) (l100004 : List (Int × (Int × ((Int × (Int × (Int × Int))) × Int)))) (l700700 : List (Int × ((Int × ByteArray) × (Int × Int)))) (l700703 : List (Int × (Int × ((Int × (Int × (Int × Int))) × Int)))) : Option ((((Unit × ((Unit × (Int × (Int × (Unit × (List Int × (List Int × List (Int × (Int × ((Int × (Int × (Int × Int))) × Int))))))))) × Bool)) × ((List (Int × ((Int × ByteArray) × (Int × Int))) × (Int × (Int × (Unit × List (Int × (Int × (Int × (Int × ((Int × (Int × (Int × Int))) × Int))))))))) × (List (Int × (Int × ((Int × (Int × (Int × Int))) × Int))) × (List (Int × ((Int × ByteArray) × (Int × Int))) × (List (Int × (Int × ((Int × (Int × (Int × Int))) × Int))) × Unit))))) ⊕ ((Unit × ((Unit × (Int × (Int × (Unit × (List Int × (List Int × List (Int × (Int × ((Int × (Int × (Int × Int))) × Int))))))))) × Bool)) × ((List (Int × ((Int × ByteArray) × (Int × Int))) × (Int × (Int × (Unit × List (Int × (Int × (Int × (Int × ((Int × (Int × (Int × Int))) × Int))))))))) × (List (Int × (Int × ((Int × (Int × (Int × Int))) × Int))) × (List (Int × ((Int × ByteArray) × (Int × Int))) × (List (Int × (Int × ((Int × (Int × (Int × Int))) × Int))) × ((List (Int × ((Int × ByteArray) × (Int × Int))) × (Int × (Int × (Unit × List (Int × (Int × (Int × (Int × ((Int × (Int × (Int × Int))) × Int))))))))) × (List (Int × (Int × ((Int × (Int × (Int × Int))) × Int))) × Unit))))))))) := c12o.LL Tryd.prog (T12o n) m 77 ((), (), (), (), (), x8, (), how, e, is) ((b1a, (b1ba, (b1bba, ((), b1bbbb)))), ((), (b1004ba, (b1004bba, ((), b1004bbbb)))), b1005, ((), (b1007ba, (b1007bba, ((), b1007bbbb)))), b1016, l100002, l100003, l100004, l700700, l700703, ())
theorem f12o_5_zero (n : Nat) (x8 : Bool) (slot : Bool) (b1a : List (Int × ((Int × ByteArray) × (Int × Int)))) (b1ba : Int) (b1bba : Int) (b1bbbb : List (Int × (Int × (Int × (Int × ((Int × (Int × (Int × Int))) × Int)))))) (b1004ba : Int) (b1004bba : Int) (b1004bbbb : (List Int × (List Int × List (Int × (Int × ((Int × (Int × (Int × Int))) × Int)))))) (b1005 : (Int × (Int × (Int × (Int × (Int × ((Int × (Int × (Int × Int))) × Int))))))) (b1007ba : Int) (b1007bba : Int) (b1007bbbb : (List Int × (List Int × List (Int × (Int × ((Int × (Int × (Int × Int))) × Int)))))) (l100002 : List (Int × (Int × ((Int × (Int × (Int × Int))) × Int)))) (l100003 : List (Int × ((Int × ByteArray) × (Int × Int)))) (l100004 : List (Int × (Int × ((Int × (Int × (Int × Int))) × Int)))) (l700700 : List (Int × ((Int × ByteArray) × (Int × Int)))) (l700703 : List (Int × (Int × ((Int × (Int × (Int × Int))) × Int)))) : f12o_5 n 0 x8 slot b1a b1ba b1bba b1bbbb b1004ba b1004bba b1004bbbb b1005 b1007ba b1007bba b1007bbbb l100002 l100003 l100004 l700700 l700703 = none := rfl
theorem f12o_5_eq (n m : Nat) (x8 : Bool) (slot : Bool) (b1a : List (Int × ((Int × ByteArray) × (Int × Int)))) (b1ba : Int) (b1bba : Int) (b1bbbb : List (Int × (Int × (Int × (Int × ((Int × (Int × (Int × Int))) × Int)))))) (b1004ba : Int) (b1004bba : Int) (b1004bbbb : (List Int × (List Int × List (Int × (Int × ((Int × (Int × (Int × Int))) × Int)))))) (b1005 : (Int × (Int × (Int × (Int × (Int × ((Int × (Int × (Int × Int))) × Int))))))) (b1007ba : Int) (b1007bba : Int) (b1007bbbb : (List Int × (List Int × List (Int × (Int × ((Int × (Int × (Int × Int))) × Int)))))) (l100002 : List (Int × (Int × ((Int × (Int × (Int × Int))) × Int)))) (l100003 : List (Int × ((Int × ByteArray) × (Int × Int)))) (l100004 : List (Int × (Int × ((Int × (Int × (Int × Int))) × Int)))) (l700700 : List (Int × ((Int × ByteArray) × (Int × Int)))) (l700703 : List (Int × (Int × ((Int × (Int × (Int × Int))) × Int)))) : f12o_5 n (m + 1) x8 slot b1a b1ba b1bba b1bbbb b1004ba b1004bba b1004bbbb b1005 b1007ba b1007bba b1007bbbb l100002 l100003 l100004 l700700 l700703 =
  bif b1005.fst == (0 : Int) then
   (f17o n b1a b1ba b1bba b1bbbb l100002).bind fun r1 =>
   bif decide (b1004ba < ↑l100003.length) then
    some (Sum.inl (((), ((), (Go.IntKind.i64.wrap (b1004ba + (1 : Int)), (b1004bba, ((), b1004bbbb)))), r1.fst == decide (b1004ba < ↑l100003.length)), ((r1.snd.fst.fst, (r1.snd.fst.snd.fst, (r1.snd.fst.snd.snd.fst, ((), r1.snd.fst.snd.snd.snd.snd)))), r1.snd.snd.fst, l100003, l100004, ())))
   else
    some (Sum.inl (((), ((), (b1004ba, (b1004bba, ((), b1004bbbb)))), r1.fst == decide (b1004ba < ↑l100003.length)), ((r1.snd.fst.fst, (r1.snd.fst.snd.fst, (r1.snd.fst.snd.snd.fst, ((), r1.snd.fst.snd.snd.snd.snd)))), r1.snd.snd.fst, l100003, l100004, ())))
  else
   bif b1005.fst == (1 : Int) then
    bif decide (b1005.snd.fst ≥ (0 : Int)) then
     f12o_23 n m x8 (decide (b1005.snd.fst ≤ (1024 : Int))) b1a b1ba b1bba b1bbbb b1004ba b1004bba b1004bbbb b1005 b1007ba b1007bba b1007bbbb l100002 l100003 l100004 l700700 l700703
    else
     f12o_23 n m x8 false b1a b1ba b1bba b1bbbb b1004ba b1004bba b1004bbbb b1005 b1007ba b1007bba b1007bbbb l100002 l100003 l100004 l700700 l700703
   else
    bif b1005.fst == (2 : Int) then
     (f34 n (l100003, b1004ba, b1004bba, l100004, b1004bbbb.1, b1004bbbb.snd) b1005.snd.snd.snd).bind fun r2 =>
     bif r2 then
      Go.Rf.both (Go.Rf.both (bif decide (((0 : Nat) + l100004.length) * (56 : Nat) ≤ Go.Rf.maxBytes) then
         bif decide ((([] ++ l100004).length + [b1005.snd.snd.snd].length) * (56 : Nat) ≤ Go.Rf.maxBytes) then
          (f19o n b1005.snd.snd.snd b1a b1ba b1bba b1bbbb l100002).bind fun r3 =>
          (f33 n r2 (1 : Int)).bind fun r4 =>
          some (Sum.inl (((), ((), (b1004ba, (b1004bba, ((), b1004bbbb)))), r3.fst == r4), ((r3.snd.fst.fst, (r3.snd.fst.snd.fst, (r3.snd.fst.snd.snd.fst, ((), r3.snd.fst.snd.snd.snd.snd)))), r3.snd.snd.fst, l100003, l100004 ++ [b1005.snd.snd.snd], ())))
         else
          none
        else
         none)
        (Go.Rf.both (bif decide (((0 : Nat) + l100004.length) * (56 : Nat) ≤ Go.Rf.maxBytes) then
          bif decide ((([] ++ l100004).length + [b1005.snd.snd.snd].length) * (56 : Nat) ≤ Go.Rf.maxBytes) then
           (f19o n b1005.snd.snd.snd b1a b1ba b1bba b1bbbb l100002).bind fun r5 =>
           (f33 n r2 (1 : Int)).bind fun r6 =>
           some (Sum.inl (((), ((), (b1004ba, (b1004bba, ((), b1004bbbb)))), r5.fst == r6), ((r5.snd.fst.fst, (r5.snd.fst.snd.fst, (r5.snd.fst.snd.snd.fst, ((), r5.snd.fst.snd.snd.snd.snd)))), r5.snd.snd.fst, l100003, l100004 ++ [b1005.snd.snd.snd], ())))
          else
           none
         else
          none)
         (Go.Rf.both (bif decide (((0 : Nat) + l100004.length) * (56 : Nat) ≤ Go.Rf.maxBytes) then
           bif decide ((([] ++ l100004).length + [b1005.snd.snd.snd].length) * (56 : Nat) ≤ Go.Rf.maxBytes) then
            (f19o n b1005.snd.snd.snd b1a b1ba b1bba b1bbbb l100002).bind fun r7 =>
            (f33 n r2 (1 : Int)).bind fun r8 =>
            some (Sum.inl (((), ((), (b1004ba, (b1004bba, ((), b1004bbbb)))), r7.fst == r8), ((r7.snd.fst.fst, (r7.snd.fst.snd.fst, (r7.snd.fst.snd.snd.fst, ((), r7.snd.fst.snd.snd.snd.snd)))), r7.snd.snd.fst, l100003, l100004 ++ [b1005.snd.snd.snd], ())))
           else
            none
          else
           none)
          (bif decide (((0 : Nat) + l100004.length) * (56 : Nat) ≤ Go.Rf.maxBytes) then
           bif decide ((([] ++ l100004).length + [b1005.snd.snd.snd].length) * (56 : Nat) ≤ Go.Rf.maxBytes) then
            (f19o n b1005.snd.snd.snd b1a b1ba b1bba b1bbbb l100002).bind fun r9 =>
            (f33 n r2 (1 : Int)).bind fun r10 =>
            some (Sum.inl (((), ((), (b1004ba, (b1004bba, ((), b1004bbbb)))), r9.fst == r10), ((r9.snd.fst.fst, (r9.snd.fst.snd.fst, (r9.snd.fst.snd.snd.fst, ((), r9.snd.fst.snd.snd.snd.snd)))), r9.snd.snd.fst, l100003, l100004 ++ [b1005.snd.snd.snd], ())))
           else
            none
          else
           none))))
       (Go.Rf.both (Go.Rf.both (bif decide (((0 : Nat) + l100004.length) * (56 : Nat) ≤ Go.Rf.maxBytes) then
          bif decide ((([] ++ l100004).length + [b1005.snd.snd.snd].length) * (56 : Nat) ≤ Go.Rf.maxBytes) then
           (f19o n b1005.snd.snd.snd b1a b1ba b1bba b1bbbb l100002).bind fun r11 =>
           (f33 n r2 (1 : Int)).bind fun r12 =>
           some (Sum.inl (((), ((), (b1004ba, (b1004bba, ((), b1004bbbb)))), r11.fst == r12), ((r11.snd.fst.fst, (r11.snd.fst.snd.fst, (r11.snd.fst.snd.snd.fst, ((), r11.snd.fst.snd.snd.snd.snd)))), r11.snd.snd.fst, l100003, l100004 ++ [b1005.snd.snd.snd], ())))
          else
           none
         else
          none)
         (Go.Rf.both (bif decide (((0 : Nat) + l100004.length) * (56 : Nat) ≤ Go.Rf.maxBytes) then
           bif decide ((([] ++ l100004).length + [b1005.snd.snd.snd].length) * (56 : Nat) ≤ Go.Rf.maxBytes) then
            (f19o n b1005.snd.snd.snd b1a b1ba b1bba b1bbbb l100002).bind fun r13 =>
            (f33 n r2 (1 : Int)).bind fun r14 =>
            some (Sum.inl (((), ((), (b1004ba, (b1004bba, ((), b1004bbbb)))), r13.fst == r14), ((r13.snd.fst.fst, (r13.snd.fst.snd.fst, (r13.snd.fst.snd.snd.fst, ((), r13.snd.fst.snd.snd.snd.snd)))), r13.snd.snd.fst, l100003, l100004 ++ [b1005.snd.snd.snd], ())))
           else
            none
          else
           none)
          (bif decide (((0 : Nat) + l100004.length) * (56 : Nat) ≤ Go.Rf.maxBytes) then
           bif decide ((([] ++ l100004).length + [b1005.snd.snd.snd].length) * (56 : Nat) ≤ Go.Rf.maxBytes) then
            (f19o n b1005.snd.snd.snd b1a b1ba b1bba b1bbbb l100002).bind fun r15 =>
            (f33 n r2 (1 : Int)).bind fun r16 =>
            some (Sum.inl (((), ((), (b1004ba, (b1004bba, ((), b1004bbbb)))), r15.fst == r16), ((r15.snd.fst.fst, (r15.snd.fst.snd.fst, (r15.snd.fst.snd.snd.fst, ((), r15.snd.fst.snd.snd.snd.snd)))), r15.snd.snd.fst, l100003, l100004 ++ [b1005.snd.snd.snd], ())))
           else
            none
          else
           none)))
        (Go.Rf.both (Go.Rf.both (bif decide (((0 : Nat) + l100004.length) * (56 : Nat) ≤ Go.Rf.maxBytes) then
           bif decide ((([] ++ l100004).length + [b1005.snd.snd.snd].length) * (56 : Nat) ≤ Go.Rf.maxBytes) then
            (f19o n b1005.snd.snd.snd b1a b1ba b1bba b1bbbb l100002).bind fun r17 =>
            (f33 n r2 (1 : Int)).bind fun r18 =>
            some (Sum.inl (((), ((), (b1004ba, (b1004bba, ((), b1004bbbb)))), r17.fst == r18), ((r17.snd.fst.fst, (r17.snd.fst.snd.fst, (r17.snd.fst.snd.snd.fst, ((), r17.snd.fst.snd.snd.snd.snd)))), r17.snd.snd.fst, l100003, l100004 ++ [b1005.snd.snd.snd], ())))
           else
            none
          else
           none)
          (bif decide (((0 : Nat) + l100004.length) * (56 : Nat) ≤ Go.Rf.maxBytes) then
           bif decide ((([] ++ l100004).length + [b1005.snd.snd.snd].length) * (56 : Nat) ≤ Go.Rf.maxBytes) then
            (f19o n b1005.snd.snd.snd b1a b1ba b1bba b1bbbb l100002).bind fun r19 =>
            (f33 n r2 (1 : Int)).bind fun r20 =>
            some (Sum.inl (((), ((), (b1004ba, (b1004bba, ((), b1004bbbb)))), r19.fst == r20), ((r19.snd.fst.fst, (r19.snd.fst.snd.fst, (r19.snd.fst.snd.snd.fst, ((), r19.snd.fst.snd.snd.snd.snd)))), r19.snd.snd.fst, l100003, l100004 ++ [b1005.snd.snd.snd], ())))
           else
            none
          else
           none))
         (bif decide (((0 : Nat) + l100004.length) * (56 : Nat) ≤ Go.Rf.maxBytes) then
          bif decide ((([] ++ l100004).length + [b1005.snd.snd.snd].length) * (56 : Nat) ≤ Go.Rf.maxBytes) then
           (f19o n b1005.snd.snd.snd b1a b1ba b1bba b1bbbb l100002).bind fun r21 =>
           (f33 n r2 (1 : Int)).bind fun r22 =>
           some (Sum.inl (((), ((), (b1004ba, (b1004bba, ((), b1004bbbb)))), r21.fst == r22), ((r21.snd.fst.fst, (r21.snd.fst.snd.fst, (r21.snd.fst.snd.snd.fst, ((), r21.snd.fst.snd.snd.snd.snd)))), r21.snd.snd.fst, l100003, l100004 ++ [b1005.snd.snd.snd], ())))
          else
           none
         else
          none)))
     else
      (f19o n b1005.snd.snd.snd b1a b1ba b1bba b1bbbb l100002).bind fun r23 =>
      (f33 n r2 (1 : Int)).bind fun r24 =>
      some (Sum.inl (((), ((), (b1004ba, (b1004bba, ((), b1004bbbb)))), r23.fst == r24), ((r23.snd.fst.fst, (r23.snd.fst.snd.fst, (r23.snd.fst.snd.snd.fst, ((), r23.snd.fst.snd.snd.snd.snd)))), r23.snd.snd.fst, l100003, l100004, ())))
    else
     bif b1005.fst == (3 : Int) then
      (f33 n slot (211 : Int)).bind fun r25 =>
      bif slot then
       (f33 n (decide (b1005.snd.snd.fst ≥ (1 : Int))) (1 : Int)).bind fun r26 =>
       f12o_47 n m x8 r26 b1a b1ba b1bba b1bbbb b1004ba b1004bba b1004bbbb b1005 b1007ba b1007bba b1007bbbb l100002 l100003 l100004 l700700 l700703
      else
       f12o_47 n m x8 r25 b1a b1ba b1bba b1bbbb b1004ba b1004bba b1004bbbb b1005 b1007ba b1007bba b1007bbbb l100002 l100003 l100004 l700700 l700703
     else
      bif b1005.fst == (4 : Int) then
       bif slot then
        bif decide ((0 : Int) ≤ b1005.snd.fst ∧ b1005.snd.fst < ↑(16 : Nat)) then
         bif List.getD b1004bbbb.fst (Int.toNat b1005.snd.fst) (0 : Int) == (2 : Int) then
          bif decide ((0 : Int) ≤ b1005.snd.fst ∧ b1005.snd.fst < ↑(16 : Nat)) then
           f12o_57 n m x8 (List.getD b1004bbbb.snd.fst (Int.toNat b1005.snd.fst) (0 : Int) == b1005.snd.snd.fst) b1a b1ba b1bba b1bbbb b1004ba b1004bba b1004bbbb b1005 b1007ba b1007bba b1007bbbb l100002 l100003 l100004 l700700 l700703
          else
           none
         else
          f12o_57 n m x8 false b1a b1ba b1bba b1bbbb b1004ba b1004bba b1004bbbb b1005 b1007ba b1007bba b1007bbbb l100002 l100003 l100004 l700700 l700703
        else
         none
       else
        f12o_57 n m x8 false b1a b1ba b1bba b1bbbb b1004ba b1004bba b1004bbbb b1005 b1007ba b1007bba b1007bbbb l100002 l100003 l100004 l700700 l700703
      else
       bif b1005.fst == (5 : Int) then
        (f16o n b1005.snd.fst b1a b1ba b1bba b1bbbb l100002).bind fun r27 =>
        bif !slot then
         bif r27.fst.fst.fst == (0 : Int) && (r27.fst.fst.snd.fst == (0 : Int) && (r27.fst.fst.snd.snd.fst.fst == (0 : Int) && (r27.fst.fst.snd.snd.fst.snd.fst == (0 : Int) && (r27.fst.fst.snd.snd.fst.snd.snd.fst == (0 : Int) && r27.fst.fst.snd.snd.fst.snd.snd.snd == (0 : Int))) && r27.fst.fst.snd.snd.snd == (0 : Int))) then
          bif r27.fst.snd.fst == (0 : Int) then
           some (Sum.inl (((), ((), (b1004ba, (b1004bba, ((), b1004bbbb)))), r27.fst.snd.snd == (211 : Int)), ((r27.snd.fst.fst, (r27.snd.fst.snd.fst, (r27.snd.fst.snd.snd.fst, ((), r27.snd.fst.snd.snd.snd.snd)))), r27.snd.snd.fst, l100003, l100004, ())))
          else
           some (Sum.inl (((), ((), (b1004ba, (b1004bba, ((), b1004bbbb)))), false), ((r27.snd.fst.fst, (r27.snd.fst.snd.fst, (r27.snd.fst.snd.snd.fst, ((), r27.snd.fst.snd.snd.snd.snd)))), r27.snd.snd.fst, l100003, l100004, ())))
         else
          some (Sum.inl (((), ((), (b1004ba, (b1004bba, ((), b1004bbbb)))), false), ((r27.snd.fst.fst, (r27.snd.fst.snd.fst, (r27.snd.fst.snd.snd.fst, ((), r27.snd.fst.snd.snd.snd.snd)))), r27.snd.snd.fst, l100003, l100004, ())))
        else
         bif decide ((0 : Int) ≤ b1005.snd.fst ∧ b1005.snd.fst < ↑(16 : Nat)) then
          bif List.getD b1004bbbb.fst (Int.toNat b1005.snd.fst) (0 : Int) == (0 : Int) then
           f12o_77 n m x8 r27.fst.snd.fst r27.fst.snd.snd (1 : Int) r27.snd.fst.fst r27.snd.fst.snd.fst r27.snd.fst.snd.snd.fst r27.snd.fst.snd.snd.snd.snd b1004ba b1004bba b1004bbbb b1005 b1007ba b1007bba b1007bbbb r27.fst.fst r27.snd.snd.fst l100003 l100004 l700700 l700703
          else
           f12o_77 n m x8 r27.fst.snd.fst r27.fst.snd.snd (List.getD b1004bbbb.fst (Int.toNat b1005.snd.fst) (0 : Int)) r27.snd.fst.fst r27.snd.fst.snd.fst r27.snd.fst.snd.snd.fst r27.snd.fst.snd.snd.snd.snd b1004ba b1004bba b1004bbbb b1005 b1007ba b1007bba b1007bbbb r27.fst.fst r27.snd.snd.fst l100003 l100004 l700700 l700703
         else
          none
       else
        (f22o n b1a b1ba b1bba b1bbbb l100002).bind fun r28 =>
        (f17o n r28.snd.fst.1 r28.snd.fst.snd.fst r28.snd.fst.snd.snd.fst r28.snd.fst.snd.snd.snd.2 r28.snd.snd.snd.1).bind fun r29 =>
        (f18o n (9 : Int) r29.snd.fst.1 r29.snd.fst.snd.fst r29.snd.fst.snd.snd.fst r29.snd.fst.snd.snd.snd.2 r29.snd.snd.1).bind fun r30 =>
        (f20o n (0 : Int) (77 : Int) r30.snd.fst.1 r30.snd.fst.snd.fst r30.snd.fst.snd.snd.fst r30.snd.fst.snd.snd.snd.2 r30.snd.snd.1).bind fun r31 =>
        some (Sum.inr ((((), ((), (b1004ba, (b1004bba, ((), b1004bbbb)))), true), ((r31.snd.fst.fst, (r31.snd.fst.snd.fst, (r31.snd.fst.snd.snd.fst, ((), r31.snd.fst.snd.snd.snd.snd)))), r31.snd.snd.fst, l100003, l100004, (r28.snd.snd.fst.fst, (r28.snd.snd.fst.snd.fst, (r28.snd.snd.fst.snd.snd.fst, ((), r28.snd.snd.fst.snd.snd.snd.snd)))), r28.snd.snd.snd.snd.fst, ())))) := by kernel_rfl
theorem f12o_23_zero (n : Nat) (x8 : Bool) (is : Bool) (b1a : List (Int × ((Int × ByteArray) × (Int × Int)))) (b1ba : Int) (b1bba : Int) (b1bbbb : List (Int × (Int × (Int × (Int × ((Int × (Int × (Int × Int))) × Int)))))) (b1004ba : Int) (b1004bba : Int) (b1004bbbb : (List Int × (List Int × List (Int × (Int × ((Int × (Int × (Int × Int))) × Int)))))) (b1005 : (Int × (Int × (Int × (Int × (Int × ((Int × (Int × (Int × Int))) × Int))))))) (b1007ba : Int) (b1007bba : Int) (b1007bbbb : (List Int × (List Int × List (Int × (Int × ((Int × (Int × (Int × Int))) × Int)))))) (l100002 : List (Int × (Int × ((Int × (Int × (Int × Int))) × Int)))) (l100003 : List (Int × ((Int × ByteArray) × (Int × Int)))) (l100004 : List (Int × (Int × ((Int × (Int × (Int × Int))) × Int)))) (l700700 : List (Int × ((Int × ByteArray) × (Int × Int)))) (l700703 : List (Int × (Int × ((Int × (Int × (Int × Int))) × Int)))) : f12o_23 n 0 x8 is b1a b1ba b1bba b1bbbb b1004ba b1004bba b1004bbbb b1005 b1007ba b1007bba b1007bbbb l100002 l100003 l100004 l700700 l700703 = none := rfl
theorem f12o_23_eq (n m : Nat) (x8 : Bool) (is : Bool) (b1a : List (Int × ((Int × ByteArray) × (Int × Int)))) (b1ba : Int) (b1bba : Int) (b1bbbb : List (Int × (Int × (Int × (Int × ((Int × (Int × (Int × Int))) × Int)))))) (b1004ba : Int) (b1004bba : Int) (b1004bbbb : (List Int × (List Int × List (Int × (Int × ((Int × (Int × (Int × Int))) × Int)))))) (b1005 : (Int × (Int × (Int × (Int × (Int × ((Int × (Int × (Int × Int))) × Int))))))) (b1007ba : Int) (b1007bba : Int) (b1007bbbb : (List Int × (List Int × List (Int × (Int × ((Int × (Int × (Int × Int))) × Int)))))) (l100002 : List (Int × (Int × ((Int × (Int × (Int × Int))) × Int)))) (l100003 : List (Int × ((Int × ByteArray) × (Int × Int)))) (l100004 : List (Int × (Int × ((Int × (Int × (Int × Int))) × Int)))) (l700700 : List (Int × ((Int × ByteArray) × (Int × Int)))) (l700703 : List (Int × (Int × ((Int × (Int × (Int × Int))) × Int)))) : f12o_23 n (m + 1) x8 is b1a b1ba b1bba b1bbbb b1004ba b1004bba b1004bbbb b1005 b1007ba b1007bba b1007bbbb l100002 l100003 l100004 l700700 l700703 =
  bif is then
   (f18o n b1005.snd.fst b1a b1ba b1bba b1bbbb l100002).bind fun r1 =>
   (f33 n is (1 : Int)).bind fun r2 =>
   some (Sum.inl (((), ((), (b1004ba, (b1005.snd.fst, ((), b1004bbbb)))), r1.fst == r2), ((r1.snd.fst.fst, (r1.snd.fst.snd.fst, (r1.snd.fst.snd.snd.fst, ((), r1.snd.fst.snd.snd.snd.snd)))), r1.snd.snd.fst, l100003, l100004, ())))
  else
   (f18o n b1005.snd.fst b1a b1ba b1bba b1bbbb l100002).bind fun r3 =>
   (f33 n is (1 : Int)).bind fun r4 =>
   some (Sum.inl (((), ((), (b1004ba, (b1004bba, ((), b1004bbbb)))), r3.fst == r4), ((r3.snd.fst.fst, (r3.snd.fst.snd.fst, (r3.snd.fst.snd.snd.fst, ((), r3.snd.fst.snd.snd.snd.snd)))), r3.snd.snd.fst, l100003, l100004, ()))) := by kernel_rfl
theorem f12o_47_zero (n : Nat) (x8 : Bool) (e : Int) (b1a : List (Int × ((Int × ByteArray) × (Int × Int)))) (b1ba : Int) (b1bba : Int) (b1bbbb : List (Int × (Int × (Int × (Int × ((Int × (Int × (Int × Int))) × Int)))))) (b1004ba : Int) (b1004bba : Int) (b1004bbbb : (List Int × (List Int × List (Int × (Int × ((Int × (Int × (Int × Int))) × Int)))))) (b1005 : (Int × (Int × (Int × (Int × (Int × ((Int × (Int × (Int × Int))) × Int))))))) (b1007ba : Int) (b1007bba : Int) (b1007bbbb : (List Int × (List Int × List (Int × (Int × ((Int × (Int × (Int × Int))) × Int)))))) (l100002 : List (Int × (Int × ((Int × (Int × (Int × Int))) × Int)))) (l100003 : List (Int × ((Int × ByteArray) × (Int × Int)))) (l100004 : List (Int × (Int × ((Int × (Int × (Int × Int))) × Int)))) (l700700 : List (Int × ((Int × ByteArray) × (Int × Int)))) (l700703 : List (Int × (Int × ((Int × (Int × (Int × Int))) × Int)))) : f12o_47 n 0 x8 e b1a b1ba b1bba b1bbbb b1004ba b1004bba b1004bbbb b1005 b1007ba b1007bba b1007bbbb l100002 l100003 l100004 l700700 l700703 = none := rfl
theorem f12o_47_eq (n m : Nat) (x8 : Bool) (e : Int) (b1a : List (Int × ((Int × ByteArray) × (Int × Int)))) (b1ba : Int) (b1bba : Int) (b1bbbb : List (Int × (Int × (Int × (Int × ((Int × (Int × (Int × Int))) × Int)))))) (b1004ba : Int) (b1004bba : Int) (b1004bbbb : (List Int × (List Int × List (Int × (Int × ((Int × (Int × (Int × Int))) × Int)))))) (b1005 : (Int × (Int × (Int × (Int × (Int × ((Int × (Int × (Int × Int))) × Int))))))) (b1007ba : Int) (b1007bba : Int) (b1007bbbb : (List Int × (List Int × List (Int × (Int × ((Int × (Int × (Int × Int))) × Int)))))) (l100002 : List (Int × (Int × ((Int × (Int × (Int × Int))) × Int)))) (l100003 : List (Int × ((Int × ByteArray) × (Int × Int)))) (l100004 : List (Int × (Int × ((Int × (Int × (Int × Int))) × Int)))) (l700700 : List (Int × ((Int × ByteArray) × (Int × Int)))) (l700703 : List (Int × (Int × ((Int × (Int × (Int × Int))) × Int)))) : f12o_47 n (m + 1) x8 e b1a b1ba b1bba b1bbbb b1004ba b1004bba b1004bbbb b1005 b1007ba b1007bba b1007bbbb l100002 l100003 l100004 l700700 l700703 =
  bif e == (0 : Int) then
   bif decide ((0 : Int) ≤ b1005.snd.fst ∧ b1005.snd.fst < ↑(16 : Nat)) then
    bif decide ((0 : Int) ≤ b1005.snd.fst ∧ b1005.snd.fst < ↑(16 : Nat)) then
     (f20o n b1005.snd.fst b1005.snd.snd.fst b1a b1ba b1bba b1bbbb l100002).bind fun r1 =>
     some (Sum.inl (((), ((), (b1004ba, (b1004bba, ((), (List.set b1004bbbb.fst (Int.toNat b1005.snd.fst) (2 : Int), List.set b1004bbbb.snd.fst (Int.toNat b1005.snd.fst) b1005.snd.snd.fst, b1004bbbb.snd.snd))))), r1.fst == e), ((r1.snd.fst.fst, (r1.snd.fst.snd.fst, (r1.snd.fst.snd.snd.fst, ((), r1.snd.fst.snd.snd.snd.snd)))), r1.snd.snd.fst, l100003, l100004, ())))
    else
     none
   else
    none
  else
   (f20o n b1005.snd.fst b1005.snd.snd.fst b1a b1ba b1bba b1bbbb l100002).bind fun r2 =>
   some (Sum.inl (((), ((), (b1004ba, (b1004bba, ((), b1004bbbb)))), r2.fst == e), ((r2.snd.fst.fst, (r2.snd.fst.snd.fst, (r2.snd.fst.snd.snd.fst, ((), r2.snd.fst.snd.snd.snd.snd)))), r2.snd.snd.fst, l100003, l100004, ()))) := by kernel_rfl
theorem f12o_57_zero (n : Nat) (x8 : Bool) (is : Bool) (b1a : List (Int × ((Int × ByteArray) × (Int × Int)))) (b1ba : Int) (b1bba : Int) (b1bbbb : List (Int × (Int × (Int × (Int × ((Int × (Int × (Int × Int))) × Int)))))) (b1004ba : Int) (b1004bba : Int) (b1004bbbb : (List Int × (List Int × List (Int × (Int × ((Int × (Int × (Int × Int))) × Int)))))) (b1005 : (Int × (Int × (Int × (Int × (Int × ((Int × (Int × (Int × Int))) × Int))))))) (b1007ba : Int) (b1007bba : Int) (b1007bbbb : (List Int × (List Int × List (Int × (Int × ((Int × (Int × (Int × Int))) × Int)))))) (l100002 : List (Int × (Int × ((Int × (Int × (Int × Int))) × Int)))) (l100003 : List (Int × ((Int × ByteArray) × (Int × Int)))) (l100004 : List (Int × (Int × ((Int × (Int × (Int × Int))) × Int)))) (l700700 : List (Int × ((Int × ByteArray) × (Int × Int)))) (l700703 : List (Int × (Int × ((Int × (Int × (Int × Int))) × Int)))) : f12o_57 n 0 x8 is b1a b1ba b1bba b1bbbb b1004ba b1004bba b1004bbbb b1005 b1007ba b1007bba b1007bbbb l100002 l100003 l100004 l700700 l700703 = none := rfl
theorem f12o_57_eq (n m : Nat) (x8 : Bool) (is : Bool) (b1a : List (Int × ((Int × ByteArray) × (Int × Int)))) (b1ba : Int) (b1bba : Int) (b1bbbb : List (Int × (Int × (Int × (Int × ((Int × (Int × (Int × Int))) × Int)))))) (b1004ba : Int) (b1004bba : Int) (b1004bbbb : (List Int × (List Int × List (Int × (Int × ((Int × (Int × (Int × Int))) × Int)))))) (b1005 : (Int × (Int × (Int × (Int × (Int × ((Int × (Int × (Int × Int))) × Int))))))) (b1007ba : Int) (b1007bba : Int) (b1007bbbb : (List Int × (List Int × List (Int × (Int × ((Int × (Int × (Int × Int))) × Int)))))) (l100002 : List (Int × (Int × ((Int × (Int × (Int × Int))) × Int)))) (l100003 : List (Int × ((Int × ByteArray) × (Int × Int)))) (l100004 : List (Int × (Int × ((Int × (Int × (Int × Int))) × Int)))) (l700700 : List (Int × ((Int × ByteArray) × (Int × Int)))) (l700703 : List (Int × (Int × ((Int × (Int × (Int × Int))) × Int)))) : f12o_57 n (m + 1) x8 is b1a b1ba b1bba b1bbbb b1004ba b1004bba b1004bbbb b1005 b1007ba b1007bba b1007bbbb l100002 l100003 l100004 l700700 l700703 =
  bif is then
   bif decide ((0 : Int) ≤ b1005.snd.fst ∧ b1005.snd.fst < ↑(16 : Nat)) then
    bif decide ((0 : Int) ≤ b1005.snd.fst ∧ b1005.snd.fst < ↑(16 : Nat)) then
     (f21o n b1005.snd.fst b1005.snd.snd.fst b1005.snd.snd.snd b1a b1ba b1bba b1bbbb l100002).bind fun r1 =>
     some (Sum.inl (((), ((), (b1004ba, (b1004bba, ((), (List.set b1004bbbb.fst (Int.toNat b1005.snd.fst) (3 : Int), b1004bbbb.snd.fst, List.set b1004bbbb.snd.snd (Int.toNat b1005.snd.fst) b1005.snd.snd.snd))))), r1.fst == is), ((r1.snd.fst.fst, (r1.snd.fst.snd.fst, (r1.snd.fst.snd.snd.fst, ((), r1.snd.fst.snd.snd.snd.snd)))), r1.snd.snd.fst, l100003, l100004, ())))
    else
     none
   else
    none
  else
   (f21o n b1005.snd.fst b1005.snd.snd.fst b1005.snd.snd.snd b1a b1ba b1bba b1bbbb l100002).bind fun r2 =>
   some (Sum.inl (((), ((), (b1004ba, (b1004bba, ((), b1004bbbb)))), r2.fst == is), ((r2.snd.fst.fst, (r2.snd.fst.snd.fst, (r2.snd.fst.snd.snd.fst, ((), r2.snd.fst.snd.snd.snd.snd)))), r2.snd.snd.fst, l100003, l100004, ()))) := by kernel_rfl
theorem f12o_77_zero (n : Nat) (x8 : Bool) (how : Int) (e : Int) (is : Int) (b1a : List (Int × ((Int × ByteArray) × (Int × Int)))) (b1ba : Int) (b1bba : Int) (b1bbbb : List (Int × (Int × (Int × (Int × ((Int × (Int × (Int × Int))) × Int)))))) (b1004ba : Int) (b1004bba : Int) (b1004bbbb : (List Int × (List Int × List (Int × (Int × ((Int × (Int × (Int × Int))) × Int)))))) (b1005 : (Int × (Int × (Int × (Int × (Int × ((Int × (Int × (Int × Int))) × Int))))))) (b1007ba : Int) (b1007bba : Int) (b1007bbbb : (List Int × (List Int × List (Int × (Int × ((Int × (Int × (Int × Int))) × Int)))))) (b1016 : (Int × (Int × ((Int × (Int × (Int × Int))) × Int)))) (l100002 : List (Int × (Int × ((Int × (Int × (Int × Int))) × Int)))) (l100003 : List (Int × ((Int × ByteArray) × (Int × Int)))) (l100004 : List (Int × (Int × ((Int × (Int × (Int × Int))) × Int)))) (l700700 : List (Int × ((Int × ByteArray) × (Int × Int)))) (l700703 : List (Int × (Int × ((Int × (Int × (Int × Int))) × Int)))) : f12o_77 n 0 x8 how e is b1a b1ba b1bba b1bbbb b1004ba b1004bba b1004bbbb b1005 b1007ba b1007bba b1007bbbb b1016 l100002 l100003 l100004 l700700 l700703 = none := rfl
theorem f12o_77_eq (n m : Nat) (x8 : Bool) (how : Int) (e : Int) (is : Int) (b1a : List (Int × ((Int × ByteArray) × (Int × Int)))) (b1ba : Int) (b1bba : Int) (b1bbbb : List (Int × (Int × (Int × (Int × ((Int × (Int × (Int × Int))) × Int)))))) (b1004ba : Int) (b1004bba : Int) (b1004bbbb : (List Int × (List Int × List (Int × (Int × ((Int × (Int × (Int × Int))) × Int)))))) (b1005 : (Int × (Int × (Int × (Int × (Int × ((Int × (Int × (Int × Int))) × Int))))))) (b1007ba : Int) (b1007bba : Int) (b1007bbbb : (List Int × (List Int × List (Int × (Int × ((Int × (Int × (Int × Int))) × Int)))))) (b1016 : (Int × (Int × ((Int × (Int × (Int × Int))) × Int)))) (l100002 : List (Int × (Int × ((Int × (Int × (Int × Int))) × Int)))) (l100003 : List (Int × ((Int × ByteArray) × (Int × Int)))) (l100004 : List (Int × (Int × ((Int × (Int × (Int × Int))) × Int)))) (l700700 : List (Int × ((Int × ByteArray) × (Int × Int)))) (l700703 : List (Int × (Int × ((Int × (Int × (Int × Int))) × Int)))) : f12o_77 n (m + 1) x8 how e is b1a b1ba b1bba b1bbbb b1004ba b1004bba b1004bbbb b1005 b1007ba b1007bba b1007bbbb b1016 l100002 l100003 l100004 l700700 l700703 =
  bif is != (3 : Int) then
   bif b1016.fst == (0 : Int) && (b1016.snd.fst == (0 : Int) && (b1016.snd.snd.fst.fst == (0 : Int) && (b1016.snd.snd.fst.snd.fst == (0 : Int) && (b1016.snd.snd.fst.snd.snd.fst == (0 : Int) && b1016.snd.snd.fst.snd.snd.snd == (0 : Int))) && b1016.snd.snd.snd == (0 : Int))) then
    bif how == is then
     some (Sum.inl (((), ((), (b1004ba, (b1004bba, ((), b1004bbbb)))), e == (0 : Int)), ((b1a, (b1ba, (b1bba, ((), b1bbbb)))), l100002, l100003, l100004, ())))
    else
     some (Sum.inl (((), ((), (b1004ba, (b1004bba, ((), b1004bbbb)))), false), ((b1a, (b1ba, (b1bba, ((), b1bbbb)))), l100002, l100003, l100004, ())))
   else
    some (Sum.inl (((), ((), (b1004ba, (b1004bba, ((), b1004bbbb)))), false), ((b1a, (b1ba, (b1bba, ((), b1bbbb)))), l100002, l100003, l100004, ())))
  else
   bif decide ((0 : Int) ≤ b1005.snd.fst ∧ b1005.snd.fst < ↑(16 : Nat)) then
    bif decide ((0 : Int) ≤ b1005.snd.fst ∧ b1005.snd.fst < ↑(16 : Nat)) then
     bif b1016.fst == (List.getD b1004bbbb.snd.snd (Int.toNat b1005.snd.fst) ((0 : Int), (0 : Int), ((0 : Int), (0 : Int), (0 : Int), (0 : Int)), (0 : Int))).fst && (b1016.snd.fst == (List.getD b1004bbbb.snd.snd (Int.toNat b1005.snd.fst) ((0 : Int), (0 : Int), ((0 : Int), (0 : Int), (0 : Int), (0 : Int)), (0 : Int))).snd.fst && (b1016.snd.snd.fst.fst == (List.getD b1004bbbb.snd.snd (Int.toNat b1005.snd.fst) ((0 : Int), (0 : Int), ((0 : Int), (0 : Int), (0 : Int), (0 : Int)), (0 : Int))).snd.snd.fst.fst && (b1016.snd.snd.fst.snd.fst == (List.getD b1004bbbb.snd.snd (Int.toNat b1005.snd.fst) ((0 : Int), (0 : Int), ((0 : Int), (0 : Int), (0 : Int), (0 : Int)), (0 : Int))).snd.snd.fst.snd.fst && (b1016.snd.snd.fst.snd.snd.fst == (List.getD b1004bbbb.snd.snd (Int.toNat b1005.snd.fst) ((0 : Int), (0 : Int), ((0 : Int), (0 : Int), (0 : Int), (0 : Int)), (0 : Int))).snd.snd.fst.snd.snd.fst && b1016.snd.snd.fst.snd.snd.snd == (List.getD b1004bbbb.snd.snd (Int.toNat b1005.snd.fst) ((0 : Int), (0 : Int), ((0 : Int), (0 : Int), (0 : Int), (0 : Int)), (0 : Int))).snd.snd.fst.snd.snd.snd)) && b1016.snd.snd.snd == (List.getD b1004bbbb.snd.snd (Int.toNat b1005.snd.fst) ((0 : Int), (0 : Int), ((0 : Int), (0 : Int), (0 : Int), (0 : Int)), (0 : Int))).snd.snd.snd)) then
      bif how == is then
       some (Sum.inl (((), ((), (b1004ba, (b1004bba, ((), (List.set b1004bbbb.fst (Int.toNat b1005.snd.fst) (0 : Int), b1004bbbb.snd))))), e == (0 : Int)), ((b1a, (b1ba, (b1bba, ((), b1bbbb)))), l100002, l100003, l100004, ())))
      else
       some (Sum.inl (((), ((), (b1004ba, (b1004bba, ((), (List.set b1004bbbb.fst (Int.toNat b1005.snd.fst) (0 : Int), b1004bbbb.snd))))), false), ((b1a, (b1ba, (b1bba, ((), b1bbbb)))), l100002, l100003, l100004, ())))
     else
      some (Sum.inl (((), ((), (b1004ba, (b1004bba, ((), (List.set b1004bbbb.fst (Int.toNat b1005.snd.fst) (0 : Int), b1004bbbb.snd))))), false), ((b1a, (b1ba, (b1bba, ((), b1bbbb)))), l100002, l100003, l100004, ())))
    else
     none
   else
    none := by kernel_rfl
theorem f12o_eq (n : Nat) (sba : Int) (sbba : Int) (sbbbb : (List Int × (List Int × List (Int × (Int × ((Int × (Int × (Int × Int))) × Int)))))) (x : (Int × (Int × (Int × (Int × (Int × ((Int × (Int × (Int × Int))) × Int))))))) (b1a : List (Int × ((Int × ByteArray) × (Int × Int)))) (b1ba : Int) (b1bba : Int) (b1bbbb : List (Int × (Int × (Int × (Int × ((Int × (Int × (Int × Int))) × Int)))))) (l100002 : List (Int × (Int × ((Int × (Int × (Int × Int))) × Int)))) (l100003 : List (Int × ((Int × ByteArray) × (Int × Int)))) (l100004 : List (Int × (Int × ((Int × (Int × (Int × Int))) × Int)))) : f12o n sba sbba sbbbb x b1a b1ba b1bba b1bbbb l100002 l100003 l100004 =
  bif decide (x.snd.fst ≥ (0 : Int)) then
   f12o_5 n n false (decide (x.snd.fst < (16 : Int))) b1a b1ba b1bba b1bbbb sba sbba sbbbb x (0 : Int) (0 : Int) ((List.replicate (16 : Nat) (0 : Int), List.replicate (16 : Nat) (0 : Int), List.replicate (16 : Nat) ((0 : Int), (0 : Int), ((0 : Int), (0 : Int), (0 : Int), (0 : Int)), (0 : Int)))) l100002 l100003 l100004 [] []
  else
   f12o_5 n n false false b1a b1ba b1bba b1bbbb sba sbba sbbbb x (0 : Int) (0 : Int) ((List.replicate (16 : Nat) (0 : Int), List.replicate (16 : Nat) (0 : Int), List.replicate (16 : Nat) ((0 : Int), (0 : Int), ((0 : Int), (0 : Int), (0 : Int), (0 : Int)), (0 : Int)))) l100002 l100003 l100004 [] [] := by kernel_rfl
end Go.Proofs.YthpcpofcadpijaaDoor
