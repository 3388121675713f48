/- What functions compute: printed, and checked by the kernel. -/
import Derived.Test.YtaakmifjkobkgaaDoorGc
namespace Go.Proofs.YtaakmifjkobkgaaDoor
open Go.Rf
/- convoy/client.check -/
noncomputable def c66 : Cfg := ⟨66, Tryd.f66, [(.agg (.pair (.int .i64) (.pair (.agg (.pair (.int .u16) .str)) (.pair (.int .i64) (.int .i64)))))], [.bool], 7, [10], [(21, ⟨87, 7, [(1, (.ptr 1001 []))], [(1001, .box (.val (.agg (.pair (.int .i64) (.pair (.agg (.pair (.int .u16) .str)) (.pair (.int .i64) (.int .i64)))))))]⟩)]⟩
noncomputable def T66 (n : Nat) : Tab := ⟨[e71 n, e53 n], []⟩
noncomputable def e66 (n : Nat) : Entry := c66.entry Tryd.prog (T66 n) n
theorem ok66 {W0 : World} (n : Nat) : FnOK Tryd.prog W0 (e66 n) := c66.sound (.cons (ok71 n) (.cons (ok53 n) .nil)) n Tryd.func66 (by kernel_rfl) (by kernel_rfl)
noncomputable def f66 (n : Nat) (d : (Int × ((Int × ByteArray) × (Int × Int)))) : Option (Bool) := c66.f Tryd.prog (T66 n) n d
noncomputable def f66_21 (n m : Nat) (b1001 : (Int × ((Int × ByteArray) × (Int × Int)))) : Option (Bool) := c66.LL Tryd.prog (T66 n) m 21 () (b1001, ())
theorem f66_21_zero (n : Nat) (b1001 : (Int × ((Int × ByteArray) × (Int × Int)))) : f66_21 n 0 b1001 = none := rfl
theorem f66_21_eq (n m : Nat) (b1001 : (Int × ((Int × ByteArray) × (Int × Int)))) : f66_21 n (m + 1) b1001 =
  bif b1001.fst != (5 : Int) then
   some true
  else
   some (decide (b1001.snd.snd.fst > (0 : Int))) := by kernel_rfl
theorem f66_eq (n : Nat) (d : (Int × ((Int × ByteArray) × (Int × Int)))) : f66 n d =
  (f71 n d.fst).bind fun r1 =>
  bif ByteArray.toList r1.fst == ByteArray.empty.toList then
   some false
  else
   bif r1.snd.fst then
    (f53 n d.snd.fst).bind fun r2 =>
    bif r2 != (0 : Int) then
     some false
    else
     bif !r1.snd.fst then
      bif !(d.snd.fst.fst == (0 : Int) && d.snd.fst.snd == ByteArray.empty) then
       some false
      else
       bif r1.snd.snd.fst then
        bif decide (d.snd.snd.snd < (0 : Int)) then
         some false
        else
         bif decide (d.snd.snd.snd ≥ (16 : Int)) then
          some false
         else
          bif !r1.snd.snd.fst then
           bif d.snd.snd.snd != (0 : Int) then
            some false
           else
            bif r1.snd.snd.snd.fst then
             bif decide (d.snd.snd.fst < (0 : Int)) then
              some false
             else
              bif decide (d.snd.snd.fst > r1.snd.snd.snd.snd) then
               some false
              else
               bif !r1.snd.snd.snd.fst then
                bif d.snd.snd.fst != (0 : Int) then
                 some false
                else
                 f66_21 n n d
               else
                f66_21 n n d
            else
             bif !r1.snd.snd.snd.fst then
              bif d.snd.snd.fst != (0 : Int) then
               some false
              else
               f66_21 n n d
             else
              f66_21 n n d
          else
           bif r1.snd.snd.snd.fst then
            bif decide (d.snd.snd.fst < (0 : Int)) then
             some false
            else
             bif decide (d.snd.snd.fst > r1.snd.snd.snd.snd) then
              some false
             else
              bif !r1.snd.snd.snd.fst then
               bif d.snd.snd.fst != (0 : Int) then
                some false
               else
                f66_21 n n d
              else
               f66_21 n n d
           else
            bif !r1.snd.snd.snd.fst then
             bif d.snd.snd.fst != (0 : Int) then
              some false
             else
              f66_21 n n d
            else
             f66_21 n n d
       else
        bif !r1.snd.snd.fst then
         bif d.snd.snd.snd != (0 : Int) then
          some false
         else
          bif r1.snd.snd.snd.fst then
           bif decide (d.snd.snd.fst < (0 : Int)) then
            some false
           else
            bif decide (d.snd.snd.fst > r1.snd.snd.snd.snd) then
             some false
            else
             bif !r1.snd.snd.snd.fst then
              bif d.snd.snd.fst != (0 : Int) then
               some false
              else
               f66_21 n n d
             else
              f66_21 n n d
          else
           bif !r1.snd.snd.snd.fst then
            bif d.snd.snd.fst != (0 : Int) then
             some false
            else
             f66_21 n n d
           else
            f66_21 n n d
        else
         bif r1.snd.snd.snd.fst then
          bif decide (d.snd.snd.fst < (0 : Int)) then
           some false
          else
           bif decide (d.snd.snd.fst > r1.snd.snd.snd.snd) then
            some false
           else
            bif !r1.snd.snd.snd.fst then
             bif d.snd.snd.fst != (0 : Int) then
              some false
             else
              f66_21 n n d
            else
             f66_21 n n d
         else
          bif !r1.snd.snd.snd.fst then
           bif d.snd.snd.fst != (0 : Int) then
            some false
           else
            f66_21 n n d
          else
           f66_21 n n d
     else
      bif r1.snd.snd.fst then
       bif decide (d.snd.snd.snd < (0 : Int)) then
        some false
       else
        bif decide (d.snd.snd.snd ≥ (16 : Int)) then
         some false
        else
         bif !r1.snd.snd.fst then
          bif d.snd.snd.snd != (0 : Int) then
           some false
          else
           bif r1.snd.snd.snd.fst then
            bif decide (d.snd.snd.fst < (0 : Int)) then
             some false
            else
             bif decide (d.snd.snd.fst > r1.snd.snd.snd.snd) then
              some false
             else
              bif !r1.snd.snd.snd.fst then
               bif d.snd.snd.fst != (0 : Int) then
                some false
               else
                f66_21 n n d
              else
               f66_21 n n d
           else
            bif !r1.snd.snd.snd.fst then
             bif d.snd.snd.fst != (0 : Int) then
              some false
             else
              f66_21 n n d
            else
             f66_21 n n d
         else
          bif r1.snd.snd.snd.fst then
           bif decide (d.snd.snd.fst < (0 : Int)) then
            some false
           else
            bif decide (d.snd.snd.fst > r1.snd.snd.snd.snd) then
             some false
            else
             bif !r1.snd.snd.snd.fst then
              bif d.snd.snd.fst != (0 : Int) then
               some false
              else
               f66_21 n n d
             else
              f66_21 n n d
          else
           bif !r1.snd.snd.snd.fst then
            bif d.snd.snd.fst != (0 : Int) then
             some false
            else
             f66_21 n n d
           else
            f66_21 n n d
      else
       bif !r1.snd.snd.fst then
        bif d.snd.snd.snd != (0 : Int) then
         some false
        else
         bif r1.snd.snd.snd.fst then
          bif decide (d.snd.snd.fst < (0 : Int)) then
           some false
          else
           bif decide (d.snd.snd.fst > r1.snd.snd.snd.snd) then
            some false
           else
            bif !r1.snd.snd.snd.fst then
             bif d.snd.snd.fst != (0 : Int) then
              some false
             else
              f66_21 n n d
            else
             f66_21 n n d
         else
          bif !r1.snd.snd.snd.fst then
           bif d.snd.snd.fst != (0 : Int) then
            some false
           else
            f66_21 n n d
          else
           f66_21 n n d
       else
        bif r1.snd.snd.snd.fst then
         bif decide (d.snd.snd.fst < (0 : Int)) then
          some false
         else
          bif decide (d.snd.snd.fst > r1.snd.snd.snd.snd) then
           some false
          else
           bif !r1.snd.snd.snd.fst then
            bif d.snd.snd.fst != (0 : Int) then
             some false
            else
             f66_21 n n d
           else
            f66_21 n n d
        else
         bif !r1.snd.snd.snd.fst then
          bif d.snd.snd.fst != (0 : Int) then
           some false
          else
           f66_21 n n d
         else
          f66_21 n n d
   else
    bif !r1.snd.fst then
     bif !(d.snd.fst.fst == (0 : Int) && d.snd.fst.snd == ByteArray.empty) then
      some false
     else
      bif r1.snd.snd.fst then
       bif decide (d.snd.snd.snd < (0 : Int)) then
        some false
       else
        bif decide (d.snd.snd.snd ≥ (16 : Int)) then
         some false
        else
         bif !r1.snd.snd.fst then
          bif d.snd.snd.snd != (0 : Int) then
           some false
          else
           bif r1.snd.snd.snd.fst then
            bif decide (d.snd.snd.fst < (0 : Int)) then
             some false
            else
             bif decide (d.snd.snd.fst > r1.snd.snd.snd.snd) then
              some false
             else
              bif !r1.snd.snd.snd.fst then
               bif d.snd.snd.fst != (0 : Int) then
                some false
               else
                f66_21 n n d
              else
               f66_21 n n d
           else
            bif !r1.snd.snd.snd.fst then
             bif d.snd.snd.fst != (0 : Int) then
              some false
             else
              f66_21 n n d
            else
             f66_21 n n d
         else
          bif r1.snd.snd.snd.fst then
           bif decide (d.snd.snd.fst < (0 : Int)) then
            some false
           else
            bif decide (d.snd.snd.fst > r1.snd.snd.snd.snd) then
             some false
            else
             bif !r1.snd.snd.snd.fst then
              bif d.snd.snd.fst != (0 : Int) then
               some false
              else
               f66_21 n n d
             else
              f66_21 n n d
          else
           bif !r1.snd.snd.snd.fst then
            bif d.snd.snd.fst != (0 : Int) then
             some false
            else
             f66_21 n n d
           else
            f66_21 n n d
      else
       bif !r1.snd.snd.fst then
        bif d.snd.snd.snd != (0 : Int) then
         some false
        else
         bif r1.snd.snd.snd.fst then
          bif decide (d.snd.snd.fst < (0 : Int)) then
           some false
          else
           bif decide (d.snd.snd.fst > r1.snd.snd.snd.snd) then
            some false
           else
            bif !r1.snd.snd.snd.fst then
             bif d.snd.snd.fst != (0 : Int) then
              some false
             else
              f66_21 n n d
            else
             f66_21 n n d
         else
          bif !r1.snd.snd.snd.fst then
           bif d.snd.snd.fst != (0 : Int) then
            some false
           else
            f66_21 n n d
          else
           f66_21 n n d
       else
        bif r1.snd.snd.snd.fst then
         bif decide (d.snd.snd.fst < (0 : Int)) then
          some false
         else
          bif decide (d.snd.snd.fst > r1.snd.snd.snd.snd) then
           some false
          else
           bif !r1.snd.snd.snd.fst then
            bif d.snd.snd.fst != (0 : Int) then
             some false
            else
             f66_21 n n d
           else
            f66_21 n n d
        else
         bif !r1.snd.snd.snd.fst then
          bif d.snd.snd.fst != (0 : Int) then
           some false
          else
           f66_21 n n d
         else
          f66_21 n n d
    else
     bif r1.snd.snd.fst then
      bif decide (d.snd.snd.snd < (0 : Int)) then
       some false
      else
       bif decide (d.snd.snd.snd ≥ (16 : Int)) then
        some false
       else
        bif !r1.snd.snd.fst then
         bif d.snd.snd.snd != (0 : Int) then
          some false
         else
          bif r1.snd.snd.snd.fst then
           bif decide (d.snd.snd.fst < (0 : Int)) then
            some false
           else
            bif decide (d.snd.snd.fst > r1.snd.snd.snd.snd) then
             some false
            else
             bif !r1.snd.snd.snd.fst then
              bif d.snd.snd.fst != (0 : Int) then
               some false
              else
               f66_21 n n d
             else
              f66_21 n n d
          else
           bif !r1.snd.snd.snd.fst then
            bif d.snd.snd.fst != (0 : Int) then
             some false
            else
             f66_21 n n d
           else
            f66_21 n n d
        else
         bif r1.snd.snd.snd.fst then
          bif decide (d.snd.snd.fst < (0 : Int)) then
           some false
          else
           bif decide (d.snd.snd.fst > r1.snd.snd.snd.snd) then
            some false
           else
            bif !r1.snd.snd.snd.fst then
             bif d.snd.snd.fst != (0 : Int) then
              some false
             else
              f66_21 n n d
            else
             f66_21 n n d
         else
          bif !r1.snd.snd.snd.fst then
           bif d.snd.snd.fst != (0 : Int) then
            some false
           else
            f66_21 n n d
          else
           f66_21 n n d
     else
      bif !r1.snd.snd.fst then
       bif d.snd.snd.snd != (0 : Int) then
        some false
       else
        bif r1.snd.snd.snd.fst then
         bif decide (d.snd.snd.fst < (0 : Int)) then
          some false
         else
          bif decide (d.snd.snd.fst > r1.snd.snd.snd.snd) then
           some false
          else
           bif !r1.snd.snd.snd.fst then
            bif d.snd.snd.fst != (0 : Int) then
             some false
            else
             f66_21 n n d
           else
            f66_21 n n d
        else
         bif !r1.snd.snd.snd.fst then
          bif d.snd.snd.fst != (0 : Int) then
           some false
          else
           f66_21 n n d
         else
          f66_21 n n d
      else
       bif r1.snd.snd.snd.fst then
        bif decide (d.snd.snd.fst < (0 : Int)) then
         some false
        else
         bif decide (d.snd.snd.fst > r1.snd.snd.snd.snd) then
          some false
         else
          bif !r1.snd.snd.snd.fst then
           bif d.snd.snd.fst != (0 : Int) then
            some false
           else
            f66_21 n n d
          else
           f66_21 n n d
       else
        bif !r1.snd.snd.snd.fst then
         bif d.snd.snd.fst != (0 : Int) then
          some false
         else
          f66_21 n n d
        else
         f66_21 n n d := by kernel_rfl
/- convoy/client.Check -/
noncomputable def c55 : Cfg := ⟨55, Tryd.f55, [(.sl 67 (.agg (.pair (.int .i64) (.pair (.agg (.pair (.int .u16) .str)) (.pair (.int .i64) (.int .i64))))))], [(.int .i64), (.int .i64)], 5, [], [(8, ⟨21, 5, [(9, (.val (.sl 67 (.agg (.pair (.int .i64) (.pair (.agg (.pair (.int .u16) .str)) (.pair (.int .i64) (.int .i64)))))))), (10, (.val (.int .i64))), (11, (.val (.int .i64)))], []⟩)]⟩
noncomputable def T55 (n : Nat) : Tab := ⟨[e66 n], []⟩
noncomputable def e55 (n : Nat) : Entry := c55.entry Tryd.prog (T55 n) n
theorem ok55 {W0 : World} (n : Nat) : FnOK Tryd.prog W0 (e55 n) := c55.sound (.cons (ok66 n) .nil) n Tryd.func55 (by kernel_rfl) (by kernel_rfl)
noncomputable def f55 (n : Nat) (l : List (Int × ((Int × ByteArray) × (Int × Int)))) : Option (Int × Int) := c55.f Tryd.prog (T55 n) n l
noncomputable def f55_8 (n m : Nat) (x9 : List (Int × ((Int × ByteArray) × (Int × Int)))) (x10 : Int) (x11 : Int) : Option (Int × Int) := c55.LL Tryd.prog (T55 n) m 8 (x9, x10, x11) ()
theorem f55_8_zero (n : Nat) (x9 : List (Int × ((Int × ByteArray) × (Int × Int)))) (x10 : Int) (x11 : Int) : f55_8 n 0 x9 x10 x11 = none := rfl
theorem f55_8_eq (n m : Nat) (x9 : List (Int × ((Int × ByteArray) × (Int × Int)))) (x10 : Int) (x11 : Int) : f55_8 n (m + 1) x9 x10 x11 =
  bif decide (x11 < x10) then
   bif decide ((0 : Int) ≤ x11 ∧ x11 < ↑x9.length) then
    (f66 n (x9.getD x11.toNat ((0 : Int), ((0 : Int), ByteArray.empty), (0 : Int), (0 : Int)))).bind fun r1 =>
    bif !r1 then
     some (x11, (210 : Int))
    else
     f55_8 n m x9 x10 (Go.IntKind.i64.wrap (x11 + (1 : Int)))
   else
    none
  else
   some ((0 : Int), (0 : Int)) := by kernel_rfl
theorem f55_eq (n : Nat) (l : List (Int × ((Int × ByteArray) × (Int × Int)))) : f55 n l =
  bif decide (↑l.length > (256 : Int)) then
   some ((256 : Int), (3 : Int))
  else
   f55_8 n n l ↑l.length (0 : Int) := by kernel_rfl
/- convoy/world.recipes -/
noncomputable def c37 : Cfg := ⟨37, Tryd.f37, [(.sl 77 (.agg (.pair (.agg (.pair (.int .u16) .str)) (.sl 74 (.agg (.pair (.int .i64) (.pair (.int .i64) (.int .i64))))))))], [(.int .i64), (.int .i64)], 5, [], [(4, ⟨30, 5, [(8, (.val (.sl 77 (.agg (.pair (.agg (.pair (.int .u16) .str)) (.sl 74 (.agg (.pair (.int .i64) (.pair (.int .i64) (.int .i64)))))))))), (9, (.val (.int .i64))), (10, (.val (.int .i64)))], []⟩)]⟩
noncomputable def T37 (n : Nat) : Tab := ⟨[e53 n, e54 n], []⟩
noncomputable def e37 (n : Nat) : Entry := c37.entry Tryd.prog (T37 n) n
theorem ok37 {W0 : World} (n : Nat) : FnOK Tryd.prog W0 (e37 n) := c37.sound (.cons (ok53 n) (.cons (ok54 n) .nil)) n Tryd.func37 (by kernel_rfl) (by kernel_rfl)
noncomputable def f37 (n : Nat) (l : List ((Int × ByteArray) × List (Int × (Int × Int)))) : Option (Int × Int) := c37.f Tryd.prog (T37 n) n l
noncomputable def f37_4 (n m : Nat) (x8 : List ((Int × ByteArray) × List (Int × (Int × Int)))) (x9 : Int) (x10 : Int) : Option (Int × Int) := c37.LL Tryd.prog (T37 n) m 4 (x8, x9, x10) ()
theorem f37_4_zero (n : Nat) (x8 : List ((Int × ByteArray) × List (Int × (Int × Int)))) (x9 : Int) (x10 : Int) : f37_4 n 0 x8 x9 x10 = none := rfl
theorem f37_4_eq (n m : Nat) (x8 : List ((Int × ByteArray) × List (Int × (Int × Int)))) (x9 : Int) (x10 : Int) : f37_4 n (m + 1) x8 x9 x10 =
  bif decide (x10 < x9) then
   bif decide ((0 : Int) ≤ x10 ∧ x10 < ↑x8.length) then
    (f53 n (x8.getD x10.toNat (((0 : Int), ByteArray.empty), [])).fst).bind fun r1 =>
    bif r1 != (0 : Int) then
     some (x10, (230 : Int))
    else
     (f54 n (x8.getD x10.toNat (((0 : Int), ByteArray.empty), [])).2).bind fun r2 =>
     bif r2.snd != (0 : Int) then
      some (x10, (230 : Int))
     else
      f37_4 n m x8 x9 (Go.IntKind.i64.wrap (x10 + (1 : Int)))
   else
    none
  else
   some ((0 : Int), (0 : Int)) := by kernel_rfl
theorem f37_eq (n : Nat) (l : List ((Int × ByteArray) × List (Int × (Int × Int)))) : f37 n l =
  f37_4 n n l ↑l.length (0 : Int) := by kernel_rfl
/- convoy/world.programs -/
noncomputable def c38 : Cfg := ⟨38, Tryd.f38, [(.sl 65 (.sl 67 (.agg (.pair (.int .i64) (.pair (.agg (.pair (.int .u16) .str)) (.pair (.int .i64) (.int .i64)))))))], [(.int .i64), (.int .i64)], 5, [], [(12, ⟨32, 5, [(16, (.val (.sl 65 (.sl 67 (.agg (.pair (.int .i64) (.pair (.agg (.pair (.int .u16) .str)) (.pair (.int .i64) (.int .i64))))))))), (17, (.val (.int .i64))), (18, (.val (.int .i64)))], []⟩)]⟩
noncomputable def T38 (n : Nat) : Tab := ⟨[e55 n], []⟩
noncomputable def e38 (n : Nat) : Entry := c38.entry Tryd.prog (T38 n) n
theorem ok38 {W0 : World} (n : Nat) : FnOK Tryd.prog W0 (e38 n) := c38.sound (.cons (ok55 n) .nil) n Tryd.func38 (by kernel_rfl) (by kernel_rfl)
noncomputable def f38 (n : Nat) (l : List (List (Int × ((Int × ByteArray) × (Int × Int))))) : Option (Int × Int) := c38.f Tryd.prog (T38 n) n l
noncomputable def f38_12 (n m : Nat) (x16 : List (List (Int × ((Int × ByteArray) × (Int × Int))))) (x17 : Int) (x18 : Int) : Option (Int × Int) := c38.LL Tryd.prog (T38 n) m 12 (x16, x17, x18) ()
theorem f38_12_zero (n : Nat) (x16 : List (List (Int × ((Int × ByteArray) × (Int × Int))))) (x17 : Int) (x18 : Int) : f38_12 n 0 x16 x17 x18 = none := rfl
theorem f38_12_eq (n m : Nat) (x16 : List (List (Int × ((Int × ByteArray) × (Int × Int))))) (x17 : Int) (x18 : Int) : f38_12 n (m + 1) x16 x17 x18 =
  bif decide (x18 < x17) then
   bif decide ((0 : Int) ≤ x18 ∧ x18 < ↑x16.length) then
    (f55 n (Option.rec [] (fun val => val) x16[x18.toNat]?)).bind fun r1 =>
    bif r1.snd != (0 : Int) then
     some (x18, (230 : Int))
    else
     f38_12 n m x16 x17 (Go.IntKind.i64.wrap (x18 + (1 : Int)))
   else
    none
  else
   some ((0 : Int), (0 : Int)) := by kernel_rfl
theorem f38_eq (n : Nat) (l : List (List (Int × ((Int × ByteArray) × (Int × Int))))) : f38 n l =
  bif decide (↑l.length > (1024 : Int)) then
   some ((1024 : Int), (3 : Int))
  else
   bif ↑l.length == (0 : Int) then
    some ((0 : Int), (1 : Int))
   else
    f38_12 n n l ↑l.length (0 : Int) := by kernel_rfl
end Go.Proofs.YtaakmifjkobkgaaDoor
