/- What functions compute: printed, and checked by the kernel. -/
import Derived.Test.YthpcpofcadpijaaDoorGs
namespace Go.Proofs.YthpcpofcadpijaaDoor
open Go.Rf
noncomputable def s29x0 : ByteArray := { data := #[99, 97, 108, 108] }
noncomputable def s29x1 : ByteArray := { data := #[115, 116, 97, 114, 116] }
noncomputable def s29x2 : ByteArray := { data := #[97, 119, 97, 105, 116] }
noncomputable def s29x3 : ByteArray := { data := #[102, 111, 114, 103, 101, 116] }
noncomputable def s29x4 : ByteArray := { data := #[99, 97, 110, 99, 101, 108] }
noncomputable def s29x5 : ByteArray := { data := #[111, 112, 101, 110] }
noncomputable def s29x6 : ByteArray := { data := #[115, 104, 117, 116] }
noncomputable def s29x7 : ByteArray := { data := #[115, 108, 101, 101, 112] }
noncomputable def s29x8 : ByteArray := { data := #[116, 111, 107, 101, 110] }
/- convoy/client.formOf -/
noncomputable def c29 : Cfg := ⟨29, Tryd.f29, [(.int .i64)], [(.agg (.pair .str (.pair .bool (.pair .bool (.pair .bool (.int .i64))))))], 5, [], []⟩
noncomputable def T29 (_ : Nat) : Tab := ⟨[], []⟩
noncomputable def e29 (n : Nat) : Entry := c29.entry Tryd.prog (T29 n) n
theorem ok29 {W0 : World} (n : Nat) : FnOK Tryd.prog W0 (e29 n) := c29.sound .nil n Tryd.func29 (by kernel_rfl) (by kernel_rfl)
noncomputable def f29 (n : Nat) (op : Int) : Option ((ByteArray × (Bool × (Bool × (Bool × Int))))) := c29.f Tryd.prog (T29 n) n op
theorem f29_eq (n : Nat) (op : Int) : f29 n op =
  bif op == (1 : Int) then
   some ((s29x0, true, false, false, (0 : Int)))
  else
   bif op == (2 : Int) then
    some ((s29x1, true, true, false, (0 : Int)))
   else
    bif op == (3 : Int) then
     some ((s29x2, false, true, false, (0 : Int)))
    else
     bif op == (4 : Int) then
      some ((s29x3, true, false, false, (0 : Int)))
     else
      bif op == (5 : Int) then
       some ((s29x4, false, false, true, (1024 : Int)))
      else
       bif op == (6 : Int) then
        some ((s29x5, false, false, true, (255 : Int)))
       else
        bif op == (7 : Int) then
         some ((s29x6, false, false, true, (255 : Int)))
        else
         bif op == (8 : Int) then
          some ((s29x7, false, false, true, (4611686018427387904 : Int)))
         else
          bif op == (9 : Int) then
           some ((s29x8, false, false, true, (1024 : Int)))
          else
           some ((ByteArray.empty, false, false, false, (0 : Int))) := by kernel_rfl
/- convoy/key.Check -/
noncomputable def c52 : Cfg := ⟨52, Tryd.f52, [(.agg (.pair (.int .u16) .str))], [(.int .i64)], 3, [], []⟩
noncomputable def T52 (_ : Nat) : Tab := ⟨[], []⟩
noncomputable def e52 (n : Nat) : Entry := c52.entry Tryd.prog (T52 n) n
theorem ok52 {W0 : World} (n : Nat) : FnOK Tryd.prog W0 (e52 n) := c52.sound .nil n Tryd.func52 (by kernel_rfl) (by kernel_rfl)
noncomputable def f52 (n : Nat) (k : (Int × ByteArray)) : Option (Int) := c52.f Tryd.prog (T52 n) n k
theorem f52_eq (n : Nat) (k : (Int × ByteArray)) : f52 n k =
  bif decide (↑(ByteArray.size k.snd) > (64 : Int)) then
   some (20 : Int)
  else
   some (0 : Int) := by kernel_rfl
/- convoy/client.check -/
noncomputable def c39 : Cfg := ⟨39, Tryd.f39, [(.agg (.pair (.int .i64) (.pair (.agg (.pair (.int .u16) .str)) (.pair (.int .i64) (.int .i64)))))], [.bool], 7, [10], [(21, ⟨87, 7, [(1, (.ptr 1001 []))], [(1001, .box (.val (.agg (.pair (.int .i64) (.pair (.agg (.pair (.int .u16) .str)) (.pair (.int .i64) (.int .i64)))))))]⟩)]⟩
noncomputable def T39 (n : Nat) : Tab := ⟨[e29 n, e52 n], []⟩
noncomputable def e39 (n : Nat) : Entry := c39.entry Tryd.prog (T39 n) n
theorem ok39 {W0 : World} (n : Nat) : FnOK Tryd.prog W0 (e39 n) := c39.sound (.cons (ok29 n) (.cons (ok52 n) .nil)) n Tryd.func39 (by kernel_rfl) (by kernel_rfl)
noncomputable def f39 (n : Nat) (d : (Int × ((Int × ByteArray) × (Int × Int)))) : Option (Bool) := c39.f Tryd.prog (T39 n) n d
noncomputable def f39_21 (n m : Nat) (b1001 : (Int × ((Int × ByteArray) × (Int × Int)))) : Option (Bool) := c39.LL Tryd.prog (T39 n) m 21 () (b1001, ())
theorem f39_21_zero (n : Nat) (b1001 : (Int × ((Int × ByteArray) × (Int × Int)))) : f39_21 n 0 b1001 = none := rfl
theorem f39_21_eq (n m : Nat) (b1001 : (Int × ((Int × ByteArray) × (Int × Int)))) : f39_21 n (m + 1) b1001 =
  bif b1001.fst != (5 : Int) then
   some true
  else
   some (decide (b1001.snd.snd.fst > (0 : Int))) := by kernel_rfl
theorem f39_eq (n : Nat) (d : (Int × ((Int × ByteArray) × (Int × Int)))) : f39 n d =
  (f29 n d.fst).bind fun r1 =>
  bif ByteArray.toList r1.fst == ByteArray.empty.toList then
   some false
  else
   bif r1.snd.fst then
    (f52 n d.snd.fst).bind fun r2 =>
    bif r2 != (0 : Int) then
     some false
    else
     bif !r1.snd.fst then
      bif !(d.snd.fst.fst == (0 : Int) && d.snd.fst.snd == ByteArray.empty) then
       some false
      else
       bif r1.snd.snd.fst then
        bif decide (d.snd.snd.snd < (0 : Int)) then
         some false
        else
         bif decide (d.snd.snd.snd ≥ (16 : Int)) then
          some false
         else
          bif !r1.snd.snd.fst then
           bif d.snd.snd.snd != (0 : Int) then
            some false
           else
            bif r1.snd.snd.snd.fst then
             bif decide (d.snd.snd.fst < (0 : Int)) then
              some false
             else
              bif decide (d.snd.snd.fst > r1.snd.snd.snd.snd) then
               some false
              else
               bif !r1.snd.snd.snd.fst then
                bif d.snd.snd.fst != (0 : Int) then
                 some false
                else
                 f39_21 n n d
               else
                f39_21 n n d
            else
             bif !r1.snd.snd.snd.fst then
              bif d.snd.snd.fst != (0 : Int) then
               some false
              else
               f39_21 n n d
             else
              f39_21 n n d
          else
           bif r1.snd.snd.snd.fst then
            bif decide (d.snd.snd.fst < (0 : Int)) then
             some false
            else
             bif decide (d.snd.snd.fst > r1.snd.snd.snd.snd) then
              some false
             else
              bif !r1.snd.snd.snd.fst then
               bif d.snd.snd.fst != (0 : Int) then
                some false
               else
                f39_21 n n d
              else
               f39_21 n n d
           else
            bif !r1.snd.snd.snd.fst then
             bif d.snd.snd.fst != (0 : Int) then
              some false
             else
              f39_21 n n d
            else
             f39_21 n n d
       else
        bif !r1.snd.snd.fst then
         bif d.snd.snd.snd != (0 : Int) then
          some false
         else
          bif r1.snd.snd.snd.fst then
           bif decide (d.snd.snd.fst < (0 : Int)) then
            some false
           else
            bif decide (d.snd.snd.fst > r1.snd.snd.snd.snd) then
             some false
            else
             bif !r1.snd.snd.snd.fst then
              bif d.snd.snd.fst != (0 : Int) then
               some false
              else
               f39_21 n n d
             else
              f39_21 n n d
          else
           bif !r1.snd.snd.snd.fst then
            bif d.snd.snd.fst != (0 : Int) then
             some false
            else
             f39_21 n n d
           else
            f39_21 n n d
        else
         bif r1.snd.snd.snd.fst then
          bif decide (d.snd.snd.fst < (0 : Int)) then
           some false
          else
           bif decide (d.snd.snd.fst > r1.snd.snd.snd.snd) then
            some false
           else
            bif !r1.snd.snd.snd.fst then
             bif d.snd.snd.fst != (0 : Int) then
              some false
             else
              f39_21 n n d
            else
             f39_21 n n d
         else
          bif !r1.snd.snd.snd.fst then
           bif d.snd.snd.fst != (0 : Int) then
            some false
           else
            f39_21 n n d
          else
           f39_21 n n d
     else
      bif r1.snd.snd.fst then
       bif decide (d.snd.snd.snd < (0 : Int)) then
        some false
       else
        bif decide (d.snd.snd.snd ≥ (16 : Int)) then
         some false
        else
         bif !r1.snd.snd.fst then
          bif d.snd.snd.snd != (0 : Int) then
           some false
          else
           bif r1.snd.snd.snd.fst then
            bif decide (d.snd.snd.fst < (0 : Int)) then
             some false
            else
             bif decide (d.snd.snd.fst > r1.snd.snd.snd.snd) then
              some false
             else
              bif !r1.snd.snd.snd.fst then
               bif d.snd.snd.fst != (0 : Int) then
                some false
               else
                f39_21 n n d
              else
               f39_21 n n d
           else
            bif !r1.snd.snd.snd.fst then
             bif d.snd.snd.fst != (0 : Int) then
              some false
             else
              f39_21 n n d
            else
             f39_21 n n d
         else
          bif r1.snd.snd.snd.fst then
           bif decide (d.snd.snd.fst < (0 : Int)) then
            some false
           else
            bif decide (d.snd.snd.fst > r1.snd.snd.snd.snd) then
             some false
            else
             bif !r1.snd.snd.snd.fst then
              bif d.snd.snd.fst != (0 : Int) then
               some false
              else
               f39_21 n n d
             else
              f39_21 n n d
          else
           bif !r1.snd.snd.snd.fst then
            bif d.snd.snd.fst != (0 : Int) then
             some false
            else
             f39_21 n n d
           else
            f39_21 n n d
      else
       bif !r1.snd.snd.fst then
        bif d.snd.snd.snd != (0 : Int) then
         some false
        else
         bif r1.snd.snd.snd.fst then
          bif decide (d.snd.snd.fst < (0 : Int)) then
           some false
          else
           bif decide (d.snd.snd.fst > r1.snd.snd.snd.snd) then
            some false
           else
            bif !r1.snd.snd.snd.fst then
             bif d.snd.snd.fst != (0 : Int) then
              some false
             else
              f39_21 n n d
            else
             f39_21 n n d
         else
          bif !r1.snd.snd.snd.fst then
           bif d.snd.snd.fst != (0 : Int) then
            some false
           else
            f39_21 n n d
          else
           f39_21 n n d
       else
        bif r1.snd.snd.snd.fst then
         bif decide (d.snd.snd.fst < (0 : Int)) then
          some false
         else
          bif decide (d.snd.snd.fst > r1.snd.snd.snd.snd) then
           some false
          else
           bif !r1.snd.snd.snd.fst then
            bif d.snd.snd.fst != (0 : Int) then
             some false
            else
             f39_21 n n d
           else
            f39_21 n n d
        else
         bif !r1.snd.snd.snd.fst then
          bif d.snd.snd.fst != (0 : Int) then
           some false
          else
           f39_21 n n d
         else
          f39_21 n n d
   else
    bif !r1.snd.fst then
     bif !(d.snd.fst.fst == (0 : Int) && d.snd.fst.snd == ByteArray.empty) then
      some false
     else
      bif r1.snd.snd.fst then
       bif decide (d.snd.snd.snd < (0 : Int)) then
        some false
       else
        bif decide (d.snd.snd.snd ≥ (16 : Int)) then
         some false
        else
         bif !r1.snd.snd.fst then
          bif d.snd.snd.snd != (0 : Int) then
           some false
          else
           bif r1.snd.snd.snd.fst then
            bif decide (d.snd.snd.fst < (0 : Int)) then
             some false
            else
             bif decide (d.snd.snd.fst > r1.snd.snd.snd.snd) then
              some false
             else
              bif !r1.snd.snd.snd.fst then
               bif d.snd.snd.fst != (0 : Int) then
                some false
               else
                f39_21 n n d
              else
               f39_21 n n d
           else
            bif !r1.snd.snd.snd.fst then
             bif d.snd.snd.fst != (0 : Int) then
              some false
             else
              f39_21 n n d
            else
             f39_21 n n d
         else
          bif r1.snd.snd.snd.fst then
           bif decide (d.snd.snd.fst < (0 : Int)) then
            some false
           else
            bif decide (d.snd.snd.fst > r1.snd.snd.snd.snd) then
             some false
            else
             bif !r1.snd.snd.snd.fst then
              bif d.snd.snd.fst != (0 : Int) then
               some false
              else
               f39_21 n n d
             else
              f39_21 n n d
          else
           bif !r1.snd.snd.snd.fst then
            bif d.snd.snd.fst != (0 : Int) then
             some false
            else
             f39_21 n n d
           else
            f39_21 n n d
      else
       bif !r1.snd.snd.fst then
        bif d.snd.snd.snd != (0 : Int) then
         some false
        else
         bif r1.snd.snd.snd.fst then
          bif decide (d.snd.snd.fst < (0 : Int)) then
           some false
          else
           bif decide (d.snd.snd.fst > r1.snd.snd.snd.snd) then
            some false
           else
            bif !r1.snd.snd.snd.fst then
             bif d.snd.snd.fst != (0 : Int) then
              some false
             else
              f39_21 n n d
            else
             f39_21 n n d
         else
          bif !r1.snd.snd.snd.fst then
           bif d.snd.snd.fst != (0 : Int) then
            some false
           else
            f39_21 n n d
          else
           f39_21 n n d
       else
        bif r1.snd.snd.snd.fst then
         bif decide (d.snd.snd.fst < (0 : Int)) then
          some false
         else
          bif decide (d.snd.snd.fst > r1.snd.snd.snd.snd) then
           some false
          else
           bif !r1.snd.snd.snd.fst then
            bif d.snd.snd.fst != (0 : Int) then
             some false
            else
             f39_21 n n d
           else
            f39_21 n n d
        else
         bif !r1.snd.snd.snd.fst then
          bif d.snd.snd.fst != (0 : Int) then
           some false
          else
           f39_21 n n d
         else
          f39_21 n n d
    else
     bif r1.snd.snd.fst then
      bif decide (d.snd.snd.snd < (0 : Int)) then
       some false
      else
       bif decide (d.snd.snd.snd ≥ (16 : Int)) then
        some false
       else
        bif !r1.snd.snd.fst then
         bif d.snd.snd.snd != (0 : Int) then
          some false
         else
          bif r1.snd.snd.snd.fst then
           bif decide (d.snd.snd.fst < (0 : Int)) then
            some false
           else
            bif decide (d.snd.snd.fst > r1.snd.snd.snd.snd) then
             some false
            else
             bif !r1.snd.snd.snd.fst then
              bif d.snd.snd.fst != (0 : Int) then
               some false
              else
               f39_21 n n d
             else
              f39_21 n n d
          else
           bif !r1.snd.snd.snd.fst then
            bif d.snd.snd.fst != (0 : Int) then
             some false
            else
             f39_21 n n d
           else
            f39_21 n n d
        else
         bif r1.snd.snd.snd.fst then
          bif decide (d.snd.snd.fst < (0 : Int)) then
           some false
          else
           bif decide (d.snd.snd.fst > r1.snd.snd.snd.snd) then
            some false
           else
            bif !r1.snd.snd.snd.fst then
             bif d.snd.snd.fst != (0 : Int) then
              some false
             else
              f39_21 n n d
            else
             f39_21 n n d
         else
          bif !r1.snd.snd.snd.fst then
           bif d.snd.snd.fst != (0 : Int) then
            some false
           else
            f39_21 n n d
          else
           f39_21 n n d
     else
      bif !r1.snd.snd.fst then
       bif d.snd.snd.snd != (0 : Int) then
        some false
       else
        bif r1.snd.snd.snd.fst then
         bif decide (d.snd.snd.fst < (0 : Int)) then
          some false
         else
          bif decide (d.snd.snd.fst > r1.snd.snd.snd.snd) then
           some false
          else
           bif !r1.snd.snd.snd.fst then
            bif d.snd.snd.fst != (0 : Int) then
             some false
            else
             f39_21 n n d
           else
            f39_21 n n d
        else
         bif !r1.snd.snd.snd.fst then
          bif d.snd.snd.fst != (0 : Int) then
           some false
          else
           f39_21 n n d
         else
          f39_21 n n d
      else
       bif r1.snd.snd.snd.fst then
        bif decide (d.snd.snd.fst < (0 : Int)) then
         some false
        else
         bif decide (d.snd.snd.fst > r1.snd.snd.snd.snd) then
          some false
         else
          bif !r1.snd.snd.snd.fst then
           bif d.snd.snd.fst != (0 : Int) then
            some false
           else
            f39_21 n n d
          else
           f39_21 n n d
       else
        bif !r1.snd.snd.snd.fst then
         bif d.snd.snd.fst != (0 : Int) then
          some false
         else
          f39_21 n n d
        else
         f39_21 n n d := by kernel_rfl
/- convoy/client.Check -/
noncomputable def c23 : Cfg := ⟨23, Tryd.f23, [(.sl 29 (.agg (.pair (.int .i64) (.pair (.agg (.pair (.int .u16) .str)) (.pair (.int .i64) (.int .i64))))))], [(.int .i64), (.int .i64)], 5, [], [(8, ⟨21, 5, [(9, (.val (.sl 29 (.agg (.pair (.int .i64) (.pair (.agg (.pair (.int .u16) .str)) (.pair (.int .i64) (.int .i64)))))))), (10, (.val (.int .i64))), (11, (.val (.int .i64)))], []⟩)]⟩
noncomputable def T23 (n : Nat) : Tab := ⟨[e39 n], []⟩
noncomputable def e23 (n : Nat) : Entry := c23.entry Tryd.prog (T23 n) n
theorem ok23 {W0 : World} (n : Nat) : FnOK Tryd.prog W0 (e23 n) := c23.sound (.cons (ok39 n) .nil) n Tryd.func23 (by kernel_rfl) (by kernel_rfl)
noncomputable def f23 (n : Nat) (l : List (Int × ((Int × ByteArray) × (Int × Int)))) : Option (Int × Int) := c23.f Tryd.prog (T23 n) n l
noncomputable def f23_8 (n m : Nat) (x9 : List (Int × ((Int × ByteArray) × (Int × Int)))) (x10 : Int) (x11 : Int) : Option (Int × Int) := c23.LL Tryd.prog (T23 n) m 8 (x9, x10, x11) ()
theorem f23_8_zero (n : Nat) (x9 : List (Int × ((Int × ByteArray) × (Int × Int)))) (x10 : Int) (x11 : Int) : f23_8 n 0 x9 x10 x11 = none := rfl
theorem f23_8_eq (n m : Nat) (x9 : List (Int × ((Int × ByteArray) × (Int × Int)))) (x10 : Int) (x11 : Int) : f23_8 n (m + 1) x9 x10 x11 =
  bif decide (x11 < x10) then
   bif decide ((0 : Int) ≤ x11 ∧ x11 < ↑x9.length) then
    (f39 n (x9.getD x11.toNat ((0 : Int), ((0 : Int), ByteArray.empty), (0 : Int), (0 : Int)))).bind fun r1 =>
    bif !r1 then
     some (x11, (210 : Int))
    else
     f23_8 n m x9 x10 (Go.IntKind.i64.wrap (x11 + (1 : Int)))
   else
    none
  else
   some ((0 : Int), (0 : Int)) := by kernel_rfl
theorem f23_eq (n : Nat) (l : List (Int × ((Int × ByteArray) × (Int × Int)))) : f23 n l =
  bif decide (↑l.length > (256 : Int)) then
   some ((256 : Int), (3 : Int))
  else
   f23_8 n n l ↑l.length (0 : Int) := by kernel_rfl
noncomputable def s55x0 : ByteArray := { data := #[58] }
/- convoy/key.Text -/
noncomputable def c55 : Cfg := ⟨55, Tryd.f55, [(.agg (.pair (.int .u16) .str))], [.str, (.int .i64)], 5, [], []⟩
noncomputable def T55 (n : Nat) : Tab := ⟨[e52 n, e56 n], []⟩
noncomputable def e55 (n : Nat) : Entry := c55.entry Tryd.prog (T55 n) n
theorem ok55 {W0 : World} (n : Nat) : FnOK Tryd.prog W0 (e55 n) := c55.sound (.cons (ok52 n) (.cons (ok56 n) .nil)) n Tryd.func55 (by kernel_rfl) (by kernel_rfl)
noncomputable def f55 (n : Nat) (k : (Int × ByteArray)) : Option (ByteArray × Int) := c55.f Tryd.prog (T55 n) n k
theorem f55_eq (n : Nat) (k : (Int × ByteArray)) : f55 n k =
  (f52 n k).bind fun r1 =>
  bif r1 != (0 : Int) then
   some (ByteArray.empty, r1)
  else
   (f56 n (Go.IntKind.i64.wrap k.fst)).bind fun r2 =>
   bif decide (↑(ByteArray.size r2 + (1 : Nat)) > Int.ofNat (9223372036854775807 : Nat)) then
    none
   else
    bif decide (↑((r2 ++ s55x0).size + ByteArray.size k.snd) > Int.ofNat (9223372036854775807 : Nat)) then
     none
    else
     some (r2 ++ s55x0 ++ k.snd, (0 : Int)) := by kernel_rfl
noncomputable def s42x0 : ByteArray := { data := #[32] }
/- convoy/client.line -/
noncomputable def c42 : Cfg := ⟨42, Tryd.f42, [(.agg (.pair (.int .i64) (.pair (.agg (.pair (.int .u16) .str)) (.pair (.int .i64) (.int .i64)))))], [.str], 6, [], []⟩
noncomputable def T42 (n : Nat) : Tab := ⟨[e29 n, e55 n, e56 n, e57 n, e58 n], []⟩
noncomputable def e42 (n : Nat) : Entry := c42.entry Tryd.prog (T42 n) n
theorem ok42 {W0 : World} (n : Nat) : FnOK Tryd.prog W0 (e42 n) := c42.sound (.cons (ok29 n) (.cons (ok55 n) (.cons (ok56 n) (.cons (ok57 n) (.cons (ok58 n) .nil))))) n Tryd.func42 (by kernel_rfl) (by kernel_rfl)
noncomputable def f42 (n : Nat) (d : (Int × ((Int × ByteArray) × (Int × Int)))) : Option (ByteArray) := c42.f Tryd.prog (T42 n) n d
theorem f42_eq (n : Nat) (d : (Int × ((Int × ByteArray) × (Int × Int)))) : f42 n d =
  (f29 n d.fst).bind fun r1 =>
  bif r1.snd.fst then
   (f55 n d.snd.fst).bind fun r2 =>
   bif r1.snd.snd.fst then
    (f56 n d.snd.snd.snd).bind fun r3 =>
    bif r1.snd.snd.snd.fst then
     (f57 n d.snd.snd.fst (10 : Int)).bind fun r4 =>
     (f58 n [r1.fst, r2.fst, r3, r4] s42x0).bind fun r5 =>
     some r5
    else
     (f58 n [r1.fst, r2.fst, r3] s42x0).bind fun r6 =>
     some r6
   else
    bif r1.snd.snd.snd.fst then
     (f57 n d.snd.snd.fst (10 : Int)).bind fun r7 =>
     (f58 n [r1.fst, r2.fst, r7] s42x0).bind fun r8 =>
     some r8
    else
     (f58 n [r1.fst, r2.fst] s42x0).bind fun r9 =>
     some r9
  else
   bif r1.snd.snd.fst then
    (f56 n d.snd.snd.snd).bind fun r10 =>
    bif r1.snd.snd.snd.fst then
     (f57 n d.snd.snd.fst (10 : Int)).bind fun r11 =>
     (f58 n [r1.fst, r10, r11] s42x0).bind fun r12 =>
     some r12
    else
     (f58 n [r1.fst, r10] s42x0).bind fun r13 =>
     some r13
   else
    bif r1.snd.snd.snd.fst then
     (f57 n d.snd.snd.fst (10 : Int)).bind fun r14 =>
     (f58 n [r1.fst, r14] s42x0).bind fun r15 =>
     some r15
    else
     (f58 n [r1.fst] s42x0).bind fun r16 =>
     some r16 := by kernel_rfl
end Go.Proofs.YthpcpofcadpijaaDoor
