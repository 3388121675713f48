/- What functions compute: printed, and checked by the kernel. -/
import Derived.Test.YtapackaajegjnaaGa
namespace Go.Proofs.Ytapackaajegjnaa
open Go.Rf
/- convoy/recipe.right -/
noncomputable def c28 : Cfg := ⟨28, Try.f28, [(.sl 30 (.agg (.pair (.int .i64) (.pair (.int .i64) (.int .i64))))), (.agg (.pair (.int .i64) (.pair (.int .i64) (.pair (.int .i64) (.int .i64)))))], [(.int .i64)], 5, [], []⟩
noncomputable def T28 (n : Nat) : Tab := ⟨[e8 n], []⟩
noncomputable def e28 (n : Nat) : Entry := c28.entry Try.prog (T28 n) n
theorem ok28 {W0 : World} (n : Nat) : FnOK Try.prog W0 (e28 n) := c28.sound (.cons (ok8 n) .nil) n Try.func28 (by kernel_rfl) (by kernel_rfl)
noncomputable def f28 (n : Nat) (l : List (Int × (Int × Int))) (c : (Int × (Int × (Int × Int)))) : Option (Int) := c28.f Try.prog (T28 n) n (l, c)
theorem f28_eq (n : Nat) (l : List (Int × (Int × Int))) (c : (Int × (Int × (Int × Int)))) : f28 n l c =
  (f8 n l).bind fun r1 =>
  bif r1.snd != (0 : Int) then
   some (80 : Int)
  else
   bif decide (c.fst < (0 : Int)) then
    some (1 : Int)
   else
    bif decide (c.fst > ↑l.length) then
     some (1 : Int)
    else
     bif c.snd.snd.fst != (0 : Int) then
      some (1 : Int)
     else
      some (0 : Int) := by kernel_rfl
/- convoy/convoyref08.may -/
noncomputable def c27 : Cfg := ⟨27, Try.f27, [(.agg (.pair (.int .i64) (.pair (.int .i64) (.int .i64))))], [.bool], 7, [], []⟩
noncomputable def T27 (_ : Nat) : Tab := ⟨[], []⟩
noncomputable def e27 (n : Nat) : Entry := c27.entry Try.prog (T27 n) n
theorem ok27 {W0 : World} (n : Nat) : FnOK Try.prog W0 (e27 n) := c27.sound .nil n Try.func27 (by kernel_rfl) (by kernel_rfl)
noncomputable def f27 (n : Nat) (x : (Int × (Int × Int))) : Option (Bool) := c27.f Try.prog (T27 n) n x
theorem f27_eq (n : Nat) (x : (Int × (Int × Int))) : f27 n x =
  bif x.fst == (1 : Int) then
   bif x.fst == (1 : Int) then
    some (x.snd.snd == (0 : Int))
   else
    bif x.fst == (2 : Int) then
     bif decide (x.snd.fst ≥ (-63 : Int)) then
      bif decide (x.snd.fst ≤ (63 : Int)) then
       some (x.snd.snd == (0 : Int))
      else
       some false
     else
      some false
    else
     bif x.fst == (5 : Int) then
      bif decide (x.snd.fst ≥ (0 : Int)) then
       bif decide (x.snd.fst ≤ (63 : Int)) then
        some (x.snd.snd == (0 : Int))
       else
        some false
      else
       some false
     else
      bif x.fst == (6 : Int) then
       bif decide (x.snd.fst ≥ (0 : Int)) then
        bif decide (x.snd.fst ≤ (255 : Int)) then
         some (x.snd.snd == (0 : Int))
        else
         some false
       else
        some false
      else
       bif x.fst == (7 : Int) then
        bif decide (x.snd.fst ≥ (0 : Int)) then
         bif decide (x.snd.fst ≤ (4611686018427387904 : Int)) then
          some (x.snd.snd == (0 : Int))
         else
          some false
        else
         some false
       else
        bif x.fst == (9 : Int) then
         bif decide (x.snd.fst ≥ (0 : Int)) then
          bif decide (x.snd.fst ≤ (3 : Int)) then
           bif decide (x.snd.snd ≥ (1 : Int)) then
            some (decide (x.snd.snd ≤ (256 : Int)))
           else
            some false
          else
           some false
         else
          some false
        else
         bif x.fst == (3 : Int) then
          bif x.fst == (3 : Int) then
           bif x.snd.fst == (0 : Int) then
            some (x.snd.snd == (0 : Int))
           else
            some false
          else
           some false
         else
          bif x.fst == (4 : Int) then
           bif x.fst == (4 : Int) then
            bif x.snd.fst == (0 : Int) then
             some (x.snd.snd == (0 : Int))
            else
             some false
           else
            some false
          else
           bif x.fst == (8 : Int) then
            bif x.fst == (8 : Int) then
             bif x.snd.fst == (0 : Int) then
              some (x.snd.snd == (0 : Int))
             else
              some false
            else
             some false
           else
            bif x.fst == (10 : Int) then
             bif x.snd.fst == (0 : Int) then
              some (x.snd.snd == (0 : Int))
             else
              some false
            else
             some false
  else
   bif x.fst == (11 : Int) then
    bif x.fst == (11 : Int) then
     some (x.snd.snd == (0 : Int))
    else
     bif x.fst == (2 : Int) then
      bif decide (x.snd.fst ≥ (-63 : Int)) then
       bif decide (x.snd.fst ≤ (63 : Int)) then
        some (x.snd.snd == (0 : Int))
       else
        some false
      else
       some false
     else
      bif x.fst == (5 : Int) then
       bif decide (x.snd.fst ≥ (0 : Int)) then
        bif decide (x.snd.fst ≤ (63 : Int)) then
         some (x.snd.snd == (0 : Int))
        else
         some false
       else
        some false
      else
       bif x.fst == (6 : Int) then
        bif decide (x.snd.fst ≥ (0 : Int)) then
         bif decide (x.snd.fst ≤ (255 : Int)) then
          some (x.snd.snd == (0 : Int))
         else
          some false
        else
         some false
       else
        bif x.fst == (7 : Int) then
         bif decide (x.snd.fst ≥ (0 : Int)) then
          bif decide (x.snd.fst ≤ (4611686018427387904 : Int)) then
           some (x.snd.snd == (0 : Int))
          else
           some false
         else
          some false
        else
         bif x.fst == (9 : Int) then
          bif decide (x.snd.fst ≥ (0 : Int)) then
           bif decide (x.snd.fst ≤ (3 : Int)) then
            bif decide (x.snd.snd ≥ (1 : Int)) then
             some (decide (x.snd.snd ≤ (256 : Int)))
            else
             some false
           else
            some false
          else
           some false
         else
          bif x.fst == (3 : Int) then
           bif x.fst == (3 : Int) then
            bif x.snd.fst == (0 : Int) then
             some (x.snd.snd == (0 : Int))
            else
             some false
           else
            some false
          else
           bif x.fst == (4 : Int) then
            bif x.fst == (4 : Int) then
             bif x.snd.fst == (0 : Int) then
              some (x.snd.snd == (0 : Int))
             else
              some false
            else
             some false
           else
            bif x.fst == (8 : Int) then
             bif x.fst == (8 : Int) then
              bif x.snd.fst == (0 : Int) then
               some (x.snd.snd == (0 : Int))
              else
               some false
             else
              some false
            else
             bif x.fst == (10 : Int) then
              bif x.snd.fst == (0 : Int) then
               some (x.snd.snd == (0 : Int))
              else
               some false
             else
              some false
   else
    bif x.fst == (12 : Int) then
     some (x.snd.snd == (0 : Int))
    else
     bif x.fst == (2 : Int) then
      bif decide (x.snd.fst ≥ (-63 : Int)) then
       bif decide (x.snd.fst ≤ (63 : Int)) then
        some (x.snd.snd == (0 : Int))
       else
        some false
      else
       some false
     else
      bif x.fst == (5 : Int) then
       bif decide (x.snd.fst ≥ (0 : Int)) then
        bif decide (x.snd.fst ≤ (63 : Int)) then
         some (x.snd.snd == (0 : Int))
        else
         some false
       else
        some false
      else
       bif x.fst == (6 : Int) then
        bif decide (x.snd.fst ≥ (0 : Int)) then
         bif decide (x.snd.fst ≤ (255 : Int)) then
          some (x.snd.snd == (0 : Int))
         else
          some false
        else
         some false
       else
        bif x.fst == (7 : Int) then
         bif decide (x.snd.fst ≥ (0 : Int)) then
          bif decide (x.snd.fst ≤ (4611686018427387904 : Int)) then
           some (x.snd.snd == (0 : Int))
          else
           some false
         else
          some false
        else
         bif x.fst == (9 : Int) then
          bif decide (x.snd.fst ≥ (0 : Int)) then
           bif decide (x.snd.fst ≤ (3 : Int)) then
            bif decide (x.snd.snd ≥ (1 : Int)) then
             some (decide (x.snd.snd ≤ (256 : Int)))
            else
             some false
           else
            some false
          else
           some false
         else
          bif x.fst == (3 : Int) then
           bif x.fst == (3 : Int) then
            bif x.snd.fst == (0 : Int) then
             some (x.snd.snd == (0 : Int))
            else
             some false
           else
            some false
          else
           bif x.fst == (4 : Int) then
            bif x.fst == (4 : Int) then
             bif x.snd.fst == (0 : Int) then
              some (x.snd.snd == (0 : Int))
             else
              some false
            else
             some false
           else
            bif x.fst == (8 : Int) then
             bif x.fst == (8 : Int) then
              bif x.snd.fst == (0 : Int) then
               some (x.snd.snd == (0 : Int))
              else
               some false
             else
              some false
            else
             bif x.fst == (10 : Int) then
              bif x.snd.fst == (0 : Int) then
               some (x.snd.snd == (0 : Int))
              else
               some false
             else
              some false := by kernel_rfl
/- convoy/convoyref08.Check -/
noncomputable def c9 : Cfg := ⟨9, Try.f9, [(.sl 76 (.agg (.pair (.int .i64) (.pair (.int .i64) (.int .i64)))))], [(.int .i64), (.int .i64)], 5, [], [(8, ⟨21, 5, [(9, (.val (.sl 76 (.agg (.pair (.int .i64) (.pair (.int .i64) (.int .i64))))))), (10, (.val (.int .i64))), (11, (.val (.int .i64)))], []⟩)]⟩
noncomputable def T9 (n : Nat) : Tab := ⟨[e27 n], []⟩
noncomputable def e9 (n : Nat) : Entry := c9.entry Try.prog (T9 n) n
theorem ok9 {W0 : World} (n : Nat) : FnOK Try.prog W0 (e9 n) := c9.sound (.cons (ok27 n) .nil) n Try.func9 (by kernel_rfl) (by kernel_rfl)
noncomputable def f9 (n : Nat) (l : List (Int × (Int × Int))) : Option (Int × Int) := c9.f Try.prog (T9 n) n l
noncomputable def f9_8 (n m : Nat) (x9 : List (Int × (Int × Int))) (x10 : Int) (x11 : Int) : Option (Int × Int) := c9.LL Try.prog (T9 n) m 8 (x9, x10, x11) ()
theorem f9_8_zero (n : Nat) (x9 : List (Int × (Int × Int))) (x10 : Int) (x11 : Int) : f9_8 n 0 x9 x10 x11 = none := rfl
theorem f9_8_eq (n m : Nat) (x9 : List (Int × (Int × Int))) (x10 : Int) (x11 : Int) : f9_8 n (m + 1) x9 x10 x11 =
  bif decide (x11 < x10) then
   bif decide ((0 : Int) ≤ x11 ∧ x11 < ↑x9.length) then
    (f27 n (x9.getD x11.toNat ((0 : Int), (0 : Int), (0 : Int)))).bind fun r1 =>
    bif !r1 then
     some (x11, (80 : Int))
    else
     f9_8 n m x9 x10 (Go.IntKind.i64.wrap (x11 + (1 : Int)))
   else
    none
  else
   some ((0 : Int), (0 : Int)) := by kernel_rfl
theorem f9_eq (n : Nat) (l : List (Int × (Int × Int))) : f9 n l =
  bif decide (↑l.length > (256 : Int)) then
   some ((256 : Int), (3 : Int))
  else
   f9_8 n n l ↑l.length (0 : Int) := by kernel_rfl
/- convoy/convoylaw08.given -/
noncomputable def c10 : Cfg := ⟨10, Try.f10, [(.sl 30 (.agg (.pair (.int .i64) (.pair (.int .i64) (.int .i64)))))], [(.sl 76 (.agg (.pair (.int .i64) (.pair (.int .i64) (.int .i64)))))], 5, [], [(6, ⟨19, 5, [(3, (.rs 1006)), (7, (.val (.sl 30 (.agg (.pair (.int .i64) (.pair (.int .i64) (.int .i64))))))), (8, (.val (.int .i64))), (9, (.val (.int .i64)))], [(1006, .row 76 (.agg (.pair (.int .i64) (.pair (.int .i64) (.int .i64)))))]⟩)]⟩
noncomputable def T10 (_ : Nat) : Tab := ⟨[], []⟩
noncomputable def e10 (n : Nat) : Entry := c10.entry Try.prog (T10 n) n
theorem ok10 {W0 : World} (n : Nat) : FnOK Try.prog W0 (e10 n) := c10.sound .nil n Try.func10 (by kernel_rfl) (by kernel_rfl)
noncomputable def f10 (n : Nat) (l : List (Int × (Int × Int))) : Option (List (Int × (Int × Int))) := c10.f Try.prog (T10 n) n l
noncomputable def f10_6 (n m : Nat) (x7 : List (Int × (Int × Int))) (x8 : Int) (x9 : Int) (l1006 : List (Int × (Int × Int))) : Option (List (Int × (Int × Int))) := c10.LL Try.prog (T10 n) m 6 ((), x7, x8, x9) (l1006, ())
theorem f10_6_zero (n : Nat) (x7 : List (Int × (Int × Int))) (x8 : Int) (x9 : Int) (l1006 : List (Int × (Int × Int))) : f10_6 n 0 x7 x8 x9 l1006 = none := rfl
theorem f10_6_eq (n m : Nat) (x7 : List (Int × (Int × Int))) (x8 : Int) (x9 : Int) (l1006 : List (Int × (Int × Int))) : f10_6 n (m + 1) x7 x8 x9 l1006 =
  bif decide (x9 < x8) then
   bif decide ((0 : Int) ≤ x9 ∧ x9 < ↑x7.length) then
    bif decide ((l1006.length + [x7.getD x9.toNat ((0 : Int), (0 : Int), (0 : Int))].length) * (24 : Nat) ≤ Go.Rf.maxBytes) then
     f10_6 n m x7 x8 (Go.IntKind.i64.wrap (x9 + (1 : Int))) (l1006 ++ [x7.getD x9.toNat ((0 : Int), (0 : Int), (0 : Int))])
    else
     none
   else
    none
  else
   some l1006 := by kernel_rfl
theorem f10_eq (n : Nat) (l : List (Int × (Int × Int))) : f10 n l =
  f10_6 n n l ↑l.length (0 : Int) [] := by kernel_rfl
/- convoy/recipe.Do -/
noncomputable def c11 : Cfg := ⟨11, Try.f11, [(.sl 30 (.agg (.pair (.int .i64) (.pair (.int .i64) (.int .i64))))), (.agg (.pair (.int .i64) (.pair (.int .i64) (.pair (.int .i64) (.int .i64))))), (.agg (.pair (.agg (.pair (.int .u16) .str)) (.pair (.int .i64) .bool)))], [(.agg (.pair (.int .i64) (.pair (.int .i64) (.pair (.int .i64) (.int .i64))))), (.agg (.pair (.int .i64) (.agg (.pair (.int .i64) (.pair (.int .i64) (.int .i64)))))), .bool, (.int .i64)], 6, [], []⟩
noncomputable def T11 (n : Nat) : Tab := ⟨[e28 n, e22 n], []⟩
noncomputable def e11 (n : Nat) : Entry := c11.entry Try.prog (T11 n) n
theorem ok11 {W0 : World} (n : Nat) : FnOK Try.prog W0 (e11 n) := c11.sound (.cons (ok28 n) (.cons (ok22 n) .nil)) n Try.func11 (by kernel_rfl) (by kernel_rfl)
noncomputable def f11 (n : Nat) (l : List (Int × (Int × Int))) (c : (Int × (Int × (Int × Int)))) (x : ((Int × ByteArray) × (Int × Bool))) : Option ((Int × (Int × (Int × Int))) × (Int × (Int × (Int × Int))) × Bool × Int) := c11.f Try.prog (T11 n) n (l, c, x)
theorem f11_eq (n : Nat) (l : List (Int × (Int × Int))) (c : (Int × (Int × (Int × Int)))) (x : ((Int × ByteArray) × (Int × Bool))) : f11 n l c x =
  (f28 n l c).bind fun r1 =>
  bif r1 != (0 : Int) then
   some (((0 : Int), (0 : Int), (0 : Int), (0 : Int)), ((0 : Int), (0 : Int), (0 : Int), (0 : Int)), false, r1)
  else
   (f22 n l c x).bind fun r2 =>
   some (r2.fst, r2.snd.fst, r2.snd.snd, (0 : Int)) := by kernel_rfl
/- convoy/recipe.On -/
noncomputable def c12 : Cfg := ⟨12, Try.f12, [(.sl 30 (.agg (.pair (.int .i64) (.pair (.int .i64) (.int .i64))))), (.agg (.pair (.int .i64) (.pair (.int .i64) (.pair (.int .i64) (.int .i64))))), (.agg (.pair (.agg (.pair (.int .u16) .str)) (.pair (.int .i64) .bool)))], [(.agg (.pair (.int .i64) (.pair (.int .i64) (.pair (.int .i64) (.int .i64))))), (.agg (.pair (.int .i64) (.agg (.pair (.int .i64) (.pair (.int .i64) (.int .i64)))))), .bool, (.int .i64)], 6, [], [(8, ⟨40, 6, [(0, (.val (.sl 30 (.agg (.pair (.int .i64) (.pair (.int .i64) (.int .i64))))))), (4, (.ptr 1004 [])), (5, (.ptr 1005 [])), (6, (.ptr 1006 [])), (7, (.ptr 1007 [])), (8, (.val .bool)), (9, (.val (.int .i64)))], [(1004, .box (.val (.agg (.pair (.int .i64) (.pair (.int .i64) (.pair (.int .i64) (.int .i64))))))), (1005, .box (.val (.agg (.pair (.agg (.pair (.int .u16) .str)) (.pair (.int .i64) .bool))))), (1006, .box (.val (.agg (.pair (.int .i64) (.pair (.int .i64) (.pair (.int .i64) (.int .i64))))))), (1007, .box (.val (.agg (.pair (.int .i64) (.agg (.pair (.int .i64) (.pair (.int .i64) (.int .i64))))))))]⟩)]⟩
noncomputable def T12 (n : Nat) : Tab := ⟨[e28 n, e22 n], []⟩
noncomputable def e12 (n : Nat) : Entry := c12.entry Try.prog (T12 n) n
theorem ok12 {W0 : World} (n : Nat) : FnOK Try.prog W0 (e12 n) := c12.sound (.cons (ok28 n) (.cons (ok22 n) .nil)) n Try.func12 (by kernel_rfl) (by kernel_rfl)
noncomputable def f12 (n : Nat) (l : List (Int × (Int × Int))) (c : (Int × (Int × (Int × Int)))) (x : ((Int × ByteArray) × (Int × Bool))) : Option ((Int × (Int × (Int × Int))) × (Int × (Int × (Int × Int))) × Bool × Int) := c12.f Try.prog (T12 n) n (l, c, x)
noncomputable def f12_8 (n m : Nat) (l : List (Int × (Int × Int))) (x8 : Bool) (x9 : Int) (b1004 : (Int × (Int × (Int × Int)))) (b1005 : ((Int × ByteArray) × (Int × Bool))) (b1006 : (Int × (Int × (Int × Int)))) (b1007 : (Int × (Int × (Int × Int)))) : Option ((Int × (Int × (Int × Int))) × (Int × (Int × (Int × Int))) × Bool × Int) := c12.LL Try.prog (T12 n) m 8 (l, (), (), (), (), x8, x9) (b1004, b1005, b1006, b1007, ())
theorem f12_8_zero (n : Nat) (l : List (Int × (Int × Int))) (x8 : Bool) (x9 : Int) (b1004 : (Int × (Int × (Int × Int)))) (b1005 : ((Int × ByteArray) × (Int × Bool))) (b1006 : (Int × (Int × (Int × Int)))) (b1007 : (Int × (Int × (Int × Int)))) : f12_8 n 0 l x8 x9 b1004 b1005 b1006 b1007 = none := rfl
theorem f12_8_eq (n m : Nat) (l : List (Int × (Int × Int))) (x8 : Bool) (x9 : Int) (b1004 : (Int × (Int × (Int × Int)))) (b1005 : ((Int × ByteArray) × (Int × Bool))) (b1006 : (Int × (Int × (Int × Int)))) (b1007 : (Int × (Int × (Int × Int)))) : f12_8 n (m + 1) l x8 x9 b1004 b1005 b1006 b1007 =
  (f22 n l b1004 b1005).bind fun r1 =>
  bif r1.snd.snd then
   some (r1.fst, r1.snd.fst, r1.snd.snd, (0 : Int))
  else
   bif r1.fst.snd.snd.fst != (0 : Int) then
    some (r1.fst, r1.snd.fst, r1.snd.snd, (0 : Int))
   else
    f12_8 n m l x8 x9 r1.fst b1005 b1006 b1007 := by kernel_rfl
theorem f12_eq (n : Nat) (l : List (Int × (Int × Int))) (c : (Int × (Int × (Int × Int)))) (x : ((Int × ByteArray) × (Int × Bool))) : f12 n l c x =
  (f28 n l c).bind fun r1 =>
  bif r1 != (0 : Int) then
   some (((0 : Int), (0 : Int), (0 : Int), (0 : Int)), ((0 : Int), (0 : Int), (0 : Int), (0 : Int)), false, r1)
  else
   f12_8 n n l false (0 : Int) c x (((0 : Int), (0 : Int), (0 : Int), (0 : Int))) (((0 : Int), (0 : Int), (0 : Int), (0 : Int))) := by kernel_rfl
/- convoy/convoylaw08.same -/
noncomputable def c13 : Cfg := ⟨13, Try.f13, [(.sl 30 (.agg (.pair (.int .i64) (.pair (.int .i64) (.int .i64))))), (.sl 76 (.agg (.pair (.int .i64) (.pair (.int .i64) (.int .i64)))))], [.bool], 5, [], [(8, ⟨26, 5, [(0, (.val (.sl 30 (.agg (.pair (.int .i64) (.pair (.int .i64) (.int .i64))))))), (1, (.val (.sl 76 (.agg (.pair (.int .i64) (.pair (.int .i64) (.int .i64))))))), (12, (.val (.int .i64))), (13, (.val (.int .i64)))], []⟩)]⟩
noncomputable def T13 (_ : Nat) : Tab := ⟨[], []⟩
noncomputable def e13 (n : Nat) : Entry := c13.entry Try.prog (T13 n) n
theorem ok13 {W0 : World} (n : Nat) : FnOK Try.prog W0 (e13 n) := c13.sound .nil n Try.func13 (by kernel_rfl) (by kernel_rfl)
noncomputable def f13 (n : Nat) (a : List (Int × (Int × Int))) (b : List (Int × (Int × Int))) : Option (Bool) := c13.f Try.prog (T13 n) n (a, b)
noncomputable def f13_8 (n m : Nat) (a : List (Int × (Int × Int))) (b : List (Int × (Int × Int))) (x12 : Int) (x13 : Int) : Option (Bool) := c13.LL Try.prog (T13 n) m 8 (a, b, x12, x13) ()
theorem f13_8_zero (n : Nat) (a : List (Int × (Int × Int))) (b : List (Int × (Int × Int))) (x12 : Int) (x13 : Int) : f13_8 n 0 a b x12 x13 = none := rfl
theorem f13_8_eq (n m : Nat) (a : List (Int × (Int × Int))) (b : List (Int × (Int × Int))) (x12 : Int) (x13 : Int) : f13_8 n (m + 1) a b x12 x13 =
  bif decide (x13 < x12) then
   bif decide ((0 : Int) ≤ x13 ∧ x13 < ↑a.length) then
    bif decide ((0 : Int) ≤ x13 ∧ x13 < ↑b.length) then
     bif !((a.getD x13.toNat ((0 : Int), (0 : Int), (0 : Int))).fst == (b.getD x13.toNat ((0 : Int), (0 : Int), (0 : Int))).fst && ((a.getD x13.toNat ((0 : Int), (0 : Int), (0 : Int))).snd.fst == (b.getD x13.toNat ((0 : Int), (0 : Int), (0 : Int))).snd.fst && (a.getD x13.toNat ((0 : Int), (0 : Int), (0 : Int))).snd.snd == (b.getD x13.toNat ((0 : Int), (0 : Int), (0 : Int))).snd.snd)) then
      some false
     else
      f13_8 n m a b x12 (Go.IntKind.i64.wrap (x13 + (1 : Int)))
    else
     none
   else
    none
  else
   some true := by kernel_rfl
theorem f13_eq (n : Nat) (a : List (Int × (Int × Int))) (b : List (Int × (Int × Int))) : f13 n a b =
  bif (↑a.length : Int) != ↑b.length then
   some false
  else
   f13_8 n n a b ↑a.length (0 : Int) := by kernel_rfl
/- convoy/convoyref02.over -/
noncomputable def c40 : Cfg := ⟨40, Try.f40, [(.int .u64), (.int .i64)], [(.int .u64)], 4, [], [(4, ⟨14, 4, [(0, (.val (.int .u64))), (1, (.val (.int .i64))), (5, (.val (.int .i64)))], []⟩)]⟩
noncomputable def T40 (_ : Nat) : Tab := ⟨[], []⟩
noncomputable def e40 (n : Nat) : Entry := c40.entry Try.prog (T40 n) n
theorem ok40 {W0 : World} (n : Nat) : FnOK Try.prog W0 (e40 n) := c40.sound .nil n Try.func40 (by kernel_rfl) (by kernel_rfl)
noncomputable def f40 (n : Nat) (x : Int) (a1 : Int) : Option (Int) := c40.f Try.prog (T40 n) n (x, a1)
noncomputable def f40_4 (n m : Nat) (x : Int) (x1 : Int) (i : Int) : Option (Int) := c40.LL Try.prog (T40 n) m 4 (x, x1, i) ()
theorem f40_4_zero (n : Nat) (x : Int) (x1 : Int) (i : Int) : f40_4 n 0 x x1 i = none := rfl
theorem f40_4_eq (n m : Nat) (x : Int) (x1 : Int) (i : Int) : f40_4 n (m + 1) x x1 i =
  bif decide (i < x1) then
   f40_4 n m (Go.IntKind.u64.wrap (x.tdiv (2 : Int))) x1 (Go.IntKind.i64.wrap (i + (1 : Int)))
  else
   some x := by kernel_rfl
theorem f40_eq (n : Nat) (x : Int) (a1 : Int) : f40 n x a1 =
  f40_4 n n x a1 (0 : Int) := by kernel_rfl
/- convoy/convoyref02.Bytes -/
noncomputable def c39 : Cfg := ⟨39, Try.f39, [(.agg (.pair (.int .u16) .str))], [.str], 5, [], []⟩
noncomputable def T39 (_ : Nat) : Tab := ⟨[], []⟩
noncomputable def e39 (n : Nat) : Entry := c39.entry Try.prog (T39 n) n
theorem ok39 {W0 : World} (n : Nat) : FnOK Try.prog W0 (e39 n) := c39.sound .nil n Try.func39 (by kernel_rfl) (by kernel_rfl)
noncomputable def f39 (n : Nat) (k : (Int × ByteArray)) : Option (ByteArray) := c39.f Try.prog (T39 n) n k
theorem f39_eq (n : Nat) (k : (Int × ByteArray)) : f39 n k =
  bif decide (↑((Go.Rf.mkBytes [Go.IntKind.u8.wrap (Int.tmod k.fst (256 : Int)), Go.IntKind.u8.wrap (Go.IntKind.u16.wrap (Int.tdiv k.fst (256 : Int))), Go.IntKind.u8.wrap ↑(ByteArray.size k.snd)]).size + ByteArray.size k.snd) > Int.ofNat (9223372036854775807 : Nat)) then
   none
  else
   some (Go.Rf.mkBytes [Go.IntKind.u8.wrap (Int.tmod k.fst (256 : Int)), Go.IntKind.u8.wrap (Go.IntKind.u16.wrap (Int.tdiv k.fst (256 : Int))), Go.IntKind.u8.wrap ↑(ByteArray.size k.snd)] ++ k.snd) := by kernel_rfl
/- convoy/convoyref02.Hash -/
noncomputable def c30 : Cfg := ⟨30, Try.f30, [(.agg (.pair (.int .u16) .str))], [(.int .u64)], 5, [], [(8, ⟨30, 5, [(3, (.val (.int .u64))), (4, (.val .str)), (5, (.val (.int .i64)))], []⟩)]⟩
noncomputable def T30 (n : Nat) : Tab := ⟨[e39 n, e40 n], []⟩
noncomputable def e30 (n : Nat) : Entry := c30.entry Try.prog (T30 n) n
theorem ok30 {W0 : World} (n : Nat) : FnOK Try.prog W0 (e30 n) := c30.sound (.cons (ok39 n) (.cons (ok40 n) .nil)) n Try.func30 (by kernel_rfl) (by kernel_rfl)
noncomputable def f30 (n : Nat) (k : (Int × ByteArray)) : Option (Int) := c30.f Try.prog (T30 n) n k
noncomputable def f30_8 (n m : Nat) (h : Int) (s : ByteArray) (i : Int) : Option (Int) := c30.LL Try.prog (T30 n) m 8 (h, s, i) ()
theorem f30_8_zero (n : Nat) (h : Int) (s : ByteArray) (i : Int) : f30_8 n 0 h s i = none := rfl
theorem f30_8_eq (n m : Nat) (h : Int) (s : ByteArray) (i : Int) : f30_8 n (m + 1) h s i =
  bif decide (i < ↑s.size) then
   bif decide ((0 : Int) ≤ i ∧ i < ↑s.size) then
    f30_8 n m (Go.IntKind.u64.wrap (Go.IntKind.u64.wrap ↑(BitVec.ofInt (64 : Nat) h ^^^ BitVec.ofInt (64 : Nat) (Go.IntKind.u64.wrap (Go.Rf.byteAt s i))).toNat * (1099511628211 : Int))) s (Go.IntKind.i64.wrap (i + (1 : Int)))
   else
    none
  else
   (f40 n h (32 : Int)).bind fun r1 =>
   (f40 n (Go.IntKind.u64.wrap (Go.IntKind.u64.wrap ↑(BitVec.ofInt (64 : Nat) h ^^^ BitVec.ofInt (64 : Nat) r1).toNat * (11400714819323198485 : Int))) (29 : Int)).bind fun r2 =>
   some (Go.IntKind.u64.wrap ↑(BitVec.ofInt (64 : Nat) (Go.IntKind.u64.wrap (Go.IntKind.u64.wrap ↑(BitVec.ofInt (64 : Nat) h ^^^ BitVec.ofInt (64 : Nat) r1).toNat * (11400714819323198485 : Int))) ^^^ BitVec.ofInt (64 : Nat) r2).toNat) := by kernel_rfl
theorem f30_eq (n : Nat) (k : (Int × ByteArray)) : f30 n k =
  (f39 n k).bind fun r1 =>
  f30_8 n n (14695981039346656037 : Int) r1 (0 : Int) := by kernel_rfl
/- convoy/convoyref08.shift -/
noncomputable def c29 : Cfg := ⟨29, Try.f29, [(.int .i64), (.int .i64)], [(.int .i64)], 5, [], [(2, ⟨27, 5, [(0, (.val (.int .i64))), (1, (.val (.int .i64)))], []⟩), (8, ⟨27, 5, [(0, (.val (.int .i64))), (1, (.val (.int .i64)))], []⟩)]⟩
noncomputable def T29 (_ : Nat) : Tab := ⟨[], []⟩
noncomputable def e29 (n : Nat) : Entry := c29.entry Try.prog (T29 n) n
theorem ok29 {W0 : World} (n : Nat) : FnOK Try.prog W0 (e29 n) := c29.sound .nil n Try.func29 (by kernel_rfl) (by kernel_rfl)
noncomputable def f29 (n : Nat) (a0 : Int) (a1 : Int) : Option (Int) := c29.f Try.prog (T29 n) n (a0, a1)
noncomputable def f29_2 (n m : Nat) (x0 : Int) (x1 : Int) : Option (Int) := c29.LL Try.prog (T29 n) m 2 (x0, x1) ()
noncomputable def f29_8 (n m : Nat) (x0 : Int) (x1 : Int) : Option (Int) := c29.LL Try.prog (T29 n) m 8 (x0, x1) ()
theorem f29_2_zero (n : Nat) (x0 : Int) (x1 : Int) : f29_2 n 0 x0 x1 = none := rfl
theorem f29_2_eq (n m : Nat) (x0 : Int) (x1 : Int) : f29_2 n (m + 1) x0 x1 =
  bif decide (x1 > (0 : Int)) then
   f29_2 n m (Go.IntKind.i64.wrap (x0 * (2 : Int))) (Go.IntKind.i64.wrap (x1 - (1 : Int)))
  else
   f29_8 n m x0 x1 := by kernel_rfl
theorem f29_8_zero (n : Nat) (x0 : Int) (x1 : Int) : f29_8 n 0 x0 x1 = none := rfl
theorem f29_8_eq (n m : Nat) (x0 : Int) (x1 : Int) : f29_8 n (m + 1) x0 x1 =
  bif decide (x1 < (0 : Int)) then
   bif decide (x0 < (0 : Int)) then
    bif x0.tmod (2 : Int) != (0 : Int) then
     f29_8 n m (Go.IntKind.i64.wrap ((Go.IntKind.i64.wrap (x0 - (1 : Int))).tdiv (2 : Int))) (Go.IntKind.i64.wrap (x1 + (1 : Int)))
    else
     f29_8 n m (Go.IntKind.i64.wrap (x0.tdiv (2 : Int))) (Go.IntKind.i64.wrap (x1 + (1 : Int)))
   else
    f29_8 n m (Go.IntKind.i64.wrap (x0.tdiv (2 : Int))) (Go.IntKind.i64.wrap (x1 + (1 : Int)))
  else
   some x0 := by kernel_rfl
theorem f29_eq (n : Nat) (a0 : Int) (a1 : Int) : f29 n a0 a1 =
  f29_2 n n a0 a1 := by kernel_rfl
/- convoy/convoyref08.turn -/
noncomputable def c31 : Cfg := ⟨31, Try.f31, [(.int .i64), (.int .i64)], [(.int .i64)], 5, [], [(4, ⟨22, 5, [(1, (.val (.int .i64))), (5, (.val (.int .u64)))], []⟩)]⟩
noncomputable def T31 (_ : Nat) : Tab := ⟨[], []⟩
noncomputable def e31 (n : Nat) : Entry := c31.entry Try.prog (T31 n) n
theorem ok31 {W0 : World} (n : Nat) : FnOK Try.prog W0 (e31 n) := c31.sound .nil n Try.func31 (by kernel_rfl) (by kernel_rfl)
noncomputable def f31 (n : Nat) (a0 : Int) (a1 : Int) : Option (Int) := c31.f Try.prog (T31 n) n (a0, a1)
noncomputable def f31_4 (n m : Nat) (x1 : Int) (x : Int) : Option (Int) := c31.LL Try.prog (T31 n) m 4 (x1, x) ()
theorem f31_4_zero (n : Nat) (x1 : Int) (x : Int) : f31_4 n 0 x1 x = none := rfl
theorem f31_4_eq (n m : Nat) (x1 : Int) (x : Int) : f31_4 n (m + 1) x1 x =
  bif decide (x1 > (0 : Int)) then
   bif decide (x ≥ (9223372036854775808 : Int)) then
    f31_4 n m (Go.IntKind.i64.wrap (x1 - (1 : Int))) (Go.IntKind.u64.wrap (Go.IntKind.u64.wrap (x * (2 : Int)) + (1 : Int)))
   else
    f31_4 n m (Go.IntKind.i64.wrap (x1 - (1 : Int))) (Go.IntKind.u64.wrap (x * (2 : Int)))
  else
   some (Go.IntKind.i64.wrap x) := by kernel_rfl
theorem f31_eq (n : Nat) (a0 : Int) (a1 : Int) : f31 n a0 a1 =
  f31_4 n n a1 (Go.IntKind.u64.wrap a0) := by kernel_rfl
/- convoy/convoyref08.skips -/
noncomputable def c32 : Cfg := ⟨32, Try.f32, [(.int .i64), (.int .i64), .bool], [.bool], 5, [], []⟩
noncomputable def T32 (_ : Nat) : Tab := ⟨[], []⟩
noncomputable def e32 (n : Nat) : Entry := c32.entry Try.prog (T32 n) n
theorem ok32 {W0 : World} (n : Nat) : FnOK Try.prog W0 (e32 n) := c32.sound .nil n Try.func32 (by kernel_rfl) (by kernel_rfl)
noncomputable def f32 (n : Nat) (a : Int) (a1 : Int) (cancelled : Bool) : Option (Bool) := c32.f Try.prog (T32 n) n (a, a1, cancelled)
theorem f32_eq (n : Nat) (a : Int) (a1 : Int) (cancelled : Bool) : f32 n a a1 cancelled =
  bif a == (0 : Int) then
   some (a1 == (0 : Int))
  else
   bif a == (1 : Int) then
    some (decide (a1 < (0 : Int)))
   else
    bif a == (2 : Int) then
     some (a1.tmod (2 : Int) != (0 : Int))
    else
     some cancelled := by kernel_rfl
/- convoy/convoyref08.Do -/
noncomputable def c14 : Cfg := ⟨14, Try.f14, [(.sl 76 (.agg (.pair (.int .i64) (.pair (.int .i64) (.int .i64))))), (.agg (.pair (.int .i64) (.pair (.int .i64) (.pair (.int .i64) (.int .i64))))), (.agg (.pair (.agg (.pair (.int .u16) .str)) (.pair (.int .i64) .bool)))], [(.agg (.pair (.int .i64) (.pair (.int .i64) (.pair (.int .i64) (.int .i64))))), (.agg (.pair (.int .i64) (.agg (.pair (.int .i64) (.pair (.int .i64) (.int .i64)))))), .bool], 8, [], []⟩
noncomputable def T14 (n : Nat) : Tab := ⟨[e29 n, e30 n, e31 n, e32 n], []⟩
noncomputable def e14 (n : Nat) : Entry := c14.entry Try.prog (T14 n) n
theorem ok14 {W0 : World} (n : Nat) : FnOK Try.prog W0 (e14 n) := c14.sound (.cons (ok29 n) (.cons (ok30 n) (.cons (ok31 n) (.cons (ok32 n) .nil)))) n Try.func14 (by kernel_rfl) (by kernel_rfl)
noncomputable def f14 (n : Nat) (l : List (Int × (Int × Int))) (c : (Int × (Int × (Int × Int)))) (x : ((Int × ByteArray) × (Int × Bool))) : Option ((Int × (Int × (Int × Int))) × (Int × (Int × (Int × Int))) × Bool) := c14.f Try.prog (T14 n) n (l, c, x)
theorem f14_eq (n : Nat) (l : List (Int × (Int × Int))) (c : (Int × (Int × (Int × Int)))) (x : ((Int × ByteArray) × (Int × Bool))) : f14 n l c x =
  bif decide (c.fst ≥ ↑l.length) then
   some (((0 : Int), (0 : Int), (0 : Int), (0 : Int)), (c.snd.fst, (0 : Int), (0 : Int), (0 : Int)), true)
  else
   bif decide ((0 : Int) ≤ c.fst ∧ c.fst < ↑l.length) then
    bif (l.getD (Int.toNat c.fst) ((0 : Int), (0 : Int), (0 : Int))).fst == (1 : Int) then
     some ((Go.IntKind.i64.wrap (c.fst + (1 : Int)), Go.IntKind.i64.wrap (c.snd.fst + (l.getD (Int.toNat c.fst) ((0 : Int), (0 : Int), (0 : Int))).snd.fst), c.snd.snd), ((0 : Int), (0 : Int), (0 : Int), (0 : Int)), false)
    else
     bif (l.getD (Int.toNat c.fst) ((0 : Int), (0 : Int), (0 : Int))).fst == (2 : Int) then
      (f29 n c.snd.fst (l.getD (Int.toNat c.fst) ((0 : Int), (0 : Int), (0 : Int))).snd.fst).bind fun r1 =>
      some ((Go.IntKind.i64.wrap (c.fst + (1 : Int)), r1, c.snd.snd), ((0 : Int), (0 : Int), (0 : Int), (0 : Int)), false)
     else
      bif (l.getD (Int.toNat c.fst) ((0 : Int), (0 : Int), (0 : Int))).fst == (3 : Int) then
       (f30 n x.fst).bind fun r2 =>
       some ((Go.IntKind.i64.wrap (c.fst + (1 : Int)), Go.IntKind.i64.wrap ↑(BitVec.ofInt (64 : Nat) c.snd.fst ^^^ BitVec.ofInt (64 : Nat) (Go.IntKind.i64.wrap r2)).toNat, c.snd.snd), ((0 : Int), (0 : Int), (0 : Int), (0 : Int)), false)
      else
       bif (l.getD (Int.toNat c.fst) ((0 : Int), (0 : Int), (0 : Int))).fst == (4 : Int) then
        some ((Go.IntKind.i64.wrap (c.fst + (1 : Int)), Go.IntKind.i64.wrap (c.snd.fst + x.snd.fst), c.snd.snd), ((0 : Int), (0 : Int), (0 : Int), (0 : Int)), false)
       else
        bif (l.getD (Int.toNat c.fst) ((0 : Int), (0 : Int), (0 : Int))).fst == (5 : Int) then
         (f31 n c.snd.fst (l.getD (Int.toNat c.fst) ((0 : Int), (0 : Int), (0 : Int))).snd.fst).bind fun r3 =>
         some ((Go.IntKind.i64.wrap (c.fst + (1 : Int)), r3, c.snd.snd), ((0 : Int), (0 : Int), (0 : Int), (0 : Int)), false)
        else
         bif (l.getD (Int.toNat c.fst) ((0 : Int), (0 : Int), (0 : Int))).fst == (6 : Int) then
          some ((Go.IntKind.i64.wrap (c.fst + (1 : Int)), c.snd.fst, (1 : Int), (l.getD (Int.toNat c.fst) ((0 : Int), (0 : Int), (0 : Int))).snd.fst), ((0 : Int), (0 : Int), (0 : Int), (0 : Int)), false)
         else
          bif (l.getD (Int.toNat c.fst) ((0 : Int), (0 : Int), (0 : Int))).fst == (7 : Int) then
           some ((Go.IntKind.i64.wrap (c.fst + (1 : Int)), c.snd.fst, (2 : Int), (l.getD (Int.toNat c.fst) ((0 : Int), (0 : Int), (0 : Int))).snd.fst), ((0 : Int), (0 : Int), (0 : Int), (0 : Int)), false)
          else
           bif (l.getD (Int.toNat c.fst) ((0 : Int), (0 : Int), (0 : Int))).fst == (8 : Int) then
            bif x.snd.snd then
             some (((0 : Int), (0 : Int), (0 : Int), (0 : Int)), ((0 : Int), (5 : Int), (0 : Int), x.snd.fst), true)
            else
             some ((Go.IntKind.i64.wrap (c.fst + (1 : Int)), c.snd), ((0 : Int), (0 : Int), (0 : Int), (0 : Int)), false)
           else
            bif (l.getD (Int.toNat c.fst) ((0 : Int), (0 : Int), (0 : Int))).fst == (9 : Int) then
             (f32 n (l.getD (Int.toNat c.fst) ((0 : Int), (0 : Int), (0 : Int))).snd.fst c.snd.fst x.snd.snd).bind fun r4 =>
             bif r4 then
              bif decide (Go.IntKind.i64.wrap (Go.IntKind.i64.wrap (c.fst + (1 : Int)) + (l.getD (Int.toNat c.fst) ((0 : Int), (0 : Int), (0 : Int))).snd.snd) > ↑l.length) then
               some ((↑l.length, c.snd), ((0 : Int), (0 : Int), (0 : Int), (0 : Int)), false)
              else
               some ((Go.IntKind.i64.wrap (Go.IntKind.i64.wrap (c.fst + (1 : Int)) + (l.getD (Int.toNat c.fst) ((0 : Int), (0 : Int), (0 : Int))).snd.snd), c.snd), ((0 : Int), (0 : Int), (0 : Int), (0 : Int)), false)
             else
              some ((Go.IntKind.i64.wrap (c.fst + (1 : Int)), c.snd), ((0 : Int), (0 : Int), (0 : Int), (0 : Int)), false)
            else
             bif (l.getD (Int.toNat c.fst) ((0 : Int), (0 : Int), (0 : Int))).fst == (10 : Int) then
              some (((0 : Int), (0 : Int), (0 : Int), (0 : Int)), (c.snd.fst, (0 : Int), (0 : Int), (0 : Int)), true)
             else
              bif (l.getD (Int.toNat c.fst) ((0 : Int), (0 : Int), (0 : Int))).fst == (11 : Int) then
               some (((0 : Int), (0 : Int), (0 : Int), (0 : Int)), ((0 : Int), (1 : Int), (l.getD (Int.toNat c.fst) ((0 : Int), (0 : Int), (0 : Int))).snd.fst, x.snd.fst), true)
              else
               bif (l.getD (Int.toNat c.fst) ((0 : Int), (0 : Int), (0 : Int))).fst == (12 : Int) then
                some (((0 : Int), (0 : Int), (0 : Int), (0 : Int)), ((0 : Int), (2 : Int), (l.getD (Int.toNat c.fst) ((0 : Int), (0 : Int), (0 : Int))).snd.fst, x.snd.fst), true)
               else
                some ((Go.IntKind.i64.wrap (c.fst + (1 : Int)), c.snd), ((0 : Int), (0 : Int), (0 : Int), (0 : Int)), false)
   else
    none := by kernel_rfl
/- convoy/convoylaw08.cook -/
noncomputable def c15 : Cfg := ⟨15, Try.f15, [(.agg (.pair (.int .i64) (.pair (.int .i64) (.pair (.int .i64) (.int .i64)))))], [(.agg (.pair (.int .i64) (.pair (.int .i64) (.pair (.int .i64) (.int .i64)))))], 2, [], []⟩
noncomputable def T15 (_ : Nat) : Tab := ⟨[], []⟩
noncomputable def e15 (n : Nat) : Entry := c15.entry Try.prog (T15 n) n
theorem ok15 {W0 : World} (n : Nat) : FnOK Try.prog W0 (e15 n) := c15.sound .nil n Try.func15 (by kernel_rfl) (by kernel_rfl)
noncomputable def f15 (n : Nat) (c : (Int × (Int × (Int × Int)))) : Option ((Int × (Int × (Int × Int)))) := c15.f Try.prog (T15 n) n c
theorem f15_eq (n : Nat) (c : (Int × (Int × (Int × Int)))) : f15 n c =
  some c := by kernel_rfl
/- convoy/convoylaw08.around -/
noncomputable def c16 : Cfg := ⟨16, Try.f16, [(.agg (.pair (.agg (.pair (.int .u16) .str)) (.pair (.int .i64) .bool)))], [(.agg (.pair (.agg (.pair (.int .u16) .str)) (.pair (.int .i64) .bool)))], 4, [], []⟩
noncomputable def T16 (_ : Nat) : Tab := ⟨[], []⟩
noncomputable def e16 (n : Nat) : Entry := c16.entry Try.prog (T16 n) n
theorem ok16 {W0 : World} (n : Nat) : FnOK Try.prog W0 (e16 n) := c16.sound .nil n Try.func16 (by kernel_rfl) (by kernel_rfl)
noncomputable def f16 (n : Nat) (x : ((Int × ByteArray) × (Int × Bool))) : Option (((Int × ByteArray) × (Int × Bool))) := c16.f Try.prog (T16 n) n x
theorem f16_eq (n : Nat) (x : ((Int × ByteArray) × (Int × Bool))) : f16 n x =
  some x := by kernel_rfl
/- convoy/convoylaw08.outcome -/
noncomputable def c17 : Cfg := ⟨17, Try.f17, [(.agg (.pair (.int .i64) (.agg (.pair (.int .i64) (.pair (.int .i64) (.int .i64))))))], [(.agg (.pair (.int .i64) (.agg (.pair (.int .i64) (.pair (.int .i64) (.int .i64))))))], 4, [], []⟩
noncomputable def T17 (_ : Nat) : Tab := ⟨[], []⟩
noncomputable def e17 (n : Nat) : Entry := c17.entry Try.prog (T17 n) n
theorem ok17 {W0 : World} (n : Nat) : FnOK Try.prog W0 (e17 n) := c17.sound .nil n Try.func17 (by kernel_rfl) (by kernel_rfl)
noncomputable def f17 (n : Nat) (o : (Int × (Int × (Int × Int)))) : Option ((Int × (Int × (Int × Int)))) := c17.f Try.prog (T17 n) n o
theorem f17_eq (n : Nat) (o : (Int × (Int × (Int × Int)))) : f17 n o =
  some o := by kernel_rfl
/- convoy/convoyref08.On -/
noncomputable def c18 : Cfg := ⟨18, Try.f18, [(.sl 76 (.agg (.pair (.int .i64) (.pair (.int .i64) (.int .i64))))), (.agg (.pair (.int .i64) (.pair (.int .i64) (.pair (.int .i64) (.int .i64))))), (.agg (.pair (.agg (.pair (.int .u16) .str)) (.pair (.int .i64) .bool)))], [(.agg (.pair (.int .i64) (.pair (.int .i64) (.pair (.int .i64) (.int .i64))))), (.agg (.pair (.int .i64) (.agg (.pair (.int .i64) (.pair (.int .i64) (.int .i64)))))), .bool], 5, [], [(2, ⟨30, 5, [(0, (.val (.sl 76 (.agg (.pair (.int .i64) (.pair (.int .i64) (.int .i64))))))), (4, (.ptr 1004 [])), (5, (.ptr 1005 [])), (6, (.ptr 1006 [])), (7, (.ptr 1007 [])), (8, (.val .bool))], [(1004, .box (.val (.agg (.pair (.int .i64) (.pair (.int .i64) (.pair (.int .i64) (.int .i64))))))), (1005, .box (.val (.agg (.pair (.agg (.pair (.int .u16) .str)) (.pair (.int .i64) .bool))))), (1006, .box (.val (.agg (.pair (.int .i64) (.pair (.int .i64) (.pair (.int .i64) (.int .i64))))))), (1007, .box (.val (.agg (.pair (.int .i64) (.agg (.pair (.int .i64) (.pair (.int .i64) (.int .i64))))))))]⟩)]⟩
noncomputable def T18 (n : Nat) : Tab := ⟨[e14 n], []⟩
noncomputable def e18 (n : Nat) : Entry := c18.entry Try.prog (T18 n) n
theorem ok18 {W0 : World} (n : Nat) : FnOK Try.prog W0 (e18 n) := c18.sound (.cons (ok14 n) .nil) n Try.func18 (by kernel_rfl) (by kernel_rfl)
noncomputable def f18 (n : Nat) (l : List (Int × (Int × Int))) (c : (Int × (Int × (Int × Int)))) (x : ((Int × ByteArray) × (Int × Bool))) : Option ((Int × (Int × (Int × Int))) × (Int × (Int × (Int × Int))) × Bool) := c18.f Try.prog (T18 n) n (l, c, x)
noncomputable def f18_2 (n m : Nat) (l : List (Int × (Int × Int))) (x8 : Bool) (b1004 : (Int × (Int × (Int × Int)))) (b1005 : ((Int × ByteArray) × (Int × Bool))) (b1006 : (Int × (Int × (Int × Int)))) (b1007 : (Int × (Int × (Int × Int)))) : Option ((Int × (Int × (Int × Int))) × (Int × (Int × (Int × Int))) × Bool) := c18.LL Try.prog (T18 n) m 2 (l, (), (), (), (), x8) (b1004, b1005, b1006, b1007, ())
theorem f18_2_zero (n : Nat) (l : List (Int × (Int × Int))) (x8 : Bool) (b1004 : (Int × (Int × (Int × Int)))) (b1005 : ((Int × ByteArray) × (Int × Bool))) (b1006 : (Int × (Int × (Int × Int)))) (b1007 : (Int × (Int × (Int × Int)))) : f18_2 n 0 l x8 b1004 b1005 b1006 b1007 = none := rfl
theorem f18_2_eq (n m : Nat) (l : List (Int × (Int × Int))) (x8 : Bool) (b1004 : (Int × (Int × (Int × Int)))) (b1005 : ((Int × ByteArray) × (Int × Bool))) (b1006 : (Int × (Int × (Int × Int)))) (b1007 : (Int × (Int × (Int × Int)))) : f18_2 n (m + 1) l x8 b1004 b1005 b1006 b1007 =
  (f14 n l b1004 b1005).bind fun r1 =>
  bif r1.snd.snd then
   some (r1.fst, r1.snd.fst, r1.snd.snd)
  else
   bif r1.fst.snd.snd.fst != (0 : Int) then
    some (r1.fst, r1.snd.fst, r1.snd.snd)
   else
    f18_2 n m l x8 r1.fst b1005 b1006 b1007 := by kernel_rfl
theorem f18_eq (n : Nat) (l : List (Int × (Int × Int))) (c : (Int × (Int × (Int × Int)))) (x : ((Int × ByteArray) × (Int × Bool))) : f18 n l c x =
  f18_2 n n l false c x (((0 : Int), (0 : Int), (0 : Int), (0 : Int))) (((0 : Int), (0 : Int), (0 : Int), (0 : Int))) := by kernel_rfl
/- convoy/convoylaw08.RecipeDoes -/
noncomputable def c4 : Cfg := ⟨4, Try.f4, [(.sl 30 (.agg (.pair (.int .i64) (.pair (.int .i64) (.int .i64))))), (.agg (.pair (.int .i64) (.pair (.int .i64) (.pair (.int .i64) (.int .i64))))), (.agg (.pair (.agg (.pair (.int .u16) .str)) (.pair (.int .i64) .bool)))], [.bool], 8, [6, 15, 20], [(13, ⟨187, 8, [(0, (.val (.sl 30 (.agg (.pair (.int .i64) (.pair (.int .i64) (.int .i64))))))), (4, (.ptr 1004 [])), (5, (.ptr 1005 [])), (6, (.val .bool)), (7, (.rs 1023)), (11, (.val (.int .i64)))], [(1004, .box (.val (.agg (.pair (.int .i64) (.pair (.int .i64) (.pair (.int .i64) (.int .i64))))))), (1005, .box (.val (.agg (.pair (.agg (.pair (.int .u16) .str)) (.pair (.int .i64) .bool))))), (1023, .row 30 (.agg (.pair (.int .i64) (.pair (.int .i64) (.int .i64)))))]⟩), (31, ⟨187, 8, [(0, (.val (.sl 30 (.agg (.pair (.int .i64) (.pair (.int .i64) (.int .i64))))))), (4, (.ptr 1004 [])), (5, (.ptr 1005 [])), (6, (.val .bool)), (9, (.val (.int .i64))), (12, (.ptr 1012 [])), (13, (.ptr 1013 [])), (14, (.val .bool)), (15, (.ptr 1015 [])), (16, (.ptr 1016 [])), (17, (.val .bool)), (18, (.val (.int .i64))), (19, (.val (.int .i64)))], [(1004, .box (.val (.agg (.pair (.int .i64) (.pair (.int .i64) (.pair (.int .i64) (.int .i64))))))), (1005, .box (.val (.agg (.pair (.agg (.pair (.int .u16) .str)) (.pair (.int .i64) .bool))))), (1012, .box (.val (.agg (.pair (.int .i64) (.pair (.int .i64) (.pair (.int .i64) (.int .i64))))))), (1013, .box (.val (.agg (.pair (.int .i64) (.agg (.pair (.int .i64) (.pair (.int .i64) (.int .i64)))))))), (1015, .box (.val (.agg (.pair (.int .i64) (.pair (.int .i64) (.pair (.int .i64) (.int .i64))))))), (1016, .box (.val (.agg (.pair (.int .i64) (.agg (.pair (.int .i64) (.pair (.int .i64) (.int .i64))))))))]⟩), (41, ⟨187, 8, [(0, (.val (.sl 30 (.agg (.pair (.int .i64) (.pair (.int .i64) (.int .i64))))))), (4, (.ptr 1004 [])), (5, (.ptr 1005 [])), (6, (.val .bool)), (15, (.ptr 1015 [])), (16, (.ptr 1016 [])), (17, (.val .bool)), (18, (.val (.int .i64))), (20, (.ptr 1020 [])), (21, (.ptr 1021 [])), (22, (.val .bool))], [(1004, .box (.val (.agg (.pair (.int .i64) (.pair (.int .i64) (.pair (.int .i64) (.int .i64))))))), (1005, .box (.val (.agg (.pair (.agg (.pair (.int .u16) .str)) (.pair (.int .i64) .bool))))), (1015, .box (.val (.agg (.pair (.int .i64) (.pair (.int .i64) (.pair (.int .i64) (.int .i64))))))), (1016, .box (.val (.agg (.pair (.int .i64) (.agg (.pair (.int .i64) (.pair (.int .i64) (.int .i64)))))))), (1020, .box (.val (.agg (.pair (.int .i64) (.pair (.int .i64) (.pair (.int .i64) (.int .i64))))))), (1021, .box (.val (.agg (.pair (.int .i64) (.agg (.pair (.int .i64) (.pair (.int .i64) (.int .i64))))))))]⟩)]⟩
noncomputable def T4 (n : Nat) : Tab := ⟨[e8 n, e10 n, e9 n, e6 n, e11 n, e12 n, e13 n, e15 n, e16 n, e14 n, e17 n, e18 n], []⟩
noncomputable def e4 (n : Nat) : Entry := c4.entry Try.prog (T4 n) n
theorem ok4 {W0 : World} (n : Nat) : FnOK Try.prog W0 (e4 n) := c4.sound (.cons (ok8 n) (.cons (ok10 n) (.cons (ok9 n) (.cons (ok6 n) (.cons (ok11 n) (.cons (ok12 n) (.cons (ok13 n) (.cons (ok15 n) (.cons (ok16 n) (.cons (ok14 n) (.cons (ok17 n) (.cons (ok18 n) .nil)))))))))))) n Try.func4 (by kernel_rfl) (by kernel_rfl)
noncomputable def f4 (n : Nat) (l : List (Int × (Int × Int))) (c : (Int × (Int × (Int × Int)))) (x : ((Int × ByteArray) × (Int × Bool))) : Option (Bool) := c4.f Try.prog (T4 n) n (l, c, x)
noncomputable def f4_13 (n m : Nat) (l : List (Int × (Int × Int))) (x6 : Bool) (f : Int) (b1004 : (Int × (Int × (Int × Int)))) (b1005 : ((Int × ByteArray) × (Int × Bool))) (l1023 : List (Int × (Int × Int))) : Option (Bool) := c4.LL Try.prog (T4 n) m 13 (l, (), (), x6, (), f) (b1004, b1005, l1023, ())
noncomputable def f4_31 (n m : Nat) (l : List (Int × (Int × Int))) (x6 : Bool) (e : Int) (ended : Bool) (over : Bool) (g : Int) (want : Int) (b1004 : (Int × (Int × (Int × Int)))) (b1005 : ((Int × ByteArray) × (Int × Bool))) (b1012 : (Int × (Int × (Int × Int)))) (b1013 : (Int × (Int × (Int × Int)))) (b1015 : (Int × (Int × (Int × Int)))) (b1016 : (Int × (Int × (Int × Int)))) : Option (Bool) := c4.LL Try.prog (T4 n) m 31 (l, (), (), x6, e, (), (), ended, (), (), over, g, want) (b1004, b1005, b1012, b1013, b1015, b1016, ())
noncomputable def f4_41 (n m : Nat) (l : List (Int × (Int × Int))) (x6 : Bool) (over : Bool) (g : Int) (is : Bool) (b1004 : (Int × (Int × (Int × Int)))) (b1005 : ((Int × ByteArray) × (Int × Bool))) (b1015 : (Int × (Int × (Int × Int)))) (b1016 : (Int × (Int × (Int × Int)))) (b1020 : (Int × (Int × (Int × Int)))) (b1021 : (Int × (Int × (Int × Int)))) : Option (Bool) := c4.LL Try.prog (T4 n) m 41 (l, (), (), x6, (), (), over, g, (), (), is) (b1004, b1005, b1015, b1016, b1020, b1021, ())
theorem f4_13_zero (n : Nat) (l : List (Int × (Int × Int))) (x6 : Bool) (f : Int) (b1004 : (Int × (Int × (Int × Int)))) (b1005 : ((Int × ByteArray) × (Int × Bool))) (l1023 : List (Int × (Int × Int))) : f4_13 n 0 l x6 f b1004 b1005 l1023 = none := rfl
theorem f4_13_eq (n m : Nat) (l : List (Int × (Int × Int))) (x6 : Bool) (f : Int) (b1004 : (Int × (Int × (Int × Int)))) (b1005 : ((Int × ByteArray) × (Int × Bool))) (l1023 : List (Int × (Int × Int))) : f4_13 n (m + 1) l x6 f b1004 b1005 l1023 =
  (f11 n l1023 b1004 b1005).bind fun r1 =>
  (f12 n l1023 b1004 b1005).bind fun r2 =>
  (f10 n l).bind fun r3 =>
  (f13 n l1023 r3).bind fun r4 =>
  bif !r4 then
   some false
  else
   bif f != (0 : Int) then
    f4_31 n m l x6 r1.snd.snd.snd r1.snd.snd.fst r2.snd.snd.fst r2.snd.snd.snd (80 : Int) b1004 b1005 r1.fst r1.snd.fst r2.fst r2.snd.fst
   else
    bif decide (b1004.fst < (0 : Int)) then
     f4_31 n m l x6 r1.snd.snd.snd r1.snd.snd.fst r2.snd.snd.fst r2.snd.snd.snd (1 : Int) b1004 b1005 r1.fst r1.snd.fst r2.fst r2.snd.fst
    else
     bif decide (b1004.fst > ↑l.length) then
      f4_31 n m l x6 r1.snd.snd.snd r1.snd.snd.fst r2.snd.snd.fst r2.snd.snd.snd (1 : Int) b1004 b1005 r1.fst r1.snd.fst r2.fst r2.snd.fst
     else
      bif b1004.snd.snd.fst != (0 : Int) then
       f4_31 n m l x6 r1.snd.snd.snd r1.snd.snd.fst r2.snd.snd.fst r2.snd.snd.snd (1 : Int) b1004 b1005 r1.fst r1.snd.fst r2.fst r2.snd.fst
      else
       f4_31 n m l x6 r1.snd.snd.snd r1.snd.snd.fst r2.snd.snd.fst r2.snd.snd.snd (0 : Int) b1004 b1005 r1.fst r1.snd.fst r2.fst r2.snd.fst := by kernel_rfl
theorem f4_31_zero (n : Nat) (l : List (Int × (Int × Int))) (x6 : Bool) (e : Int) (ended : Bool) (over : Bool) (g : Int) (want : Int) (b1004 : (Int × (Int × (Int × Int)))) (b1005 : ((Int × ByteArray) × (Int × Bool))) (b1012 : (Int × (Int × (Int × Int)))) (b1013 : (Int × (Int × (Int × Int)))) (b1015 : (Int × (Int × (Int × Int)))) (b1016 : (Int × (Int × (Int × Int)))) : f4_31 n 0 l x6 e ended over g want b1004 b1005 b1012 b1013 b1015 b1016 = none := rfl
theorem f4_31_eq (n m : Nat) (l : List (Int × (Int × Int))) (x6 : Bool) (e : Int) (ended : Bool) (over : Bool) (g : Int) (want : Int) (b1004 : (Int × (Int × (Int × Int)))) (b1005 : ((Int × ByteArray) × (Int × Bool))) (b1012 : (Int × (Int × (Int × Int)))) (b1013 : (Int × (Int × (Int × Int)))) (b1015 : (Int × (Int × (Int × Int)))) (b1016 : (Int × (Int × (Int × Int)))) : f4_31 n (m + 1) l x6 e ended over g want b1004 b1005 b1012 b1013 b1015 b1016 =
  bif want != (0 : Int) then
   bif b1012.fst == (0 : Int) && (b1012.snd.fst == (0 : Int) && (b1012.snd.snd.fst == (0 : Int) && b1012.snd.snd.snd == (0 : Int))) then
    bif b1013.fst == (0 : Int) && (b1013.snd.fst == (0 : Int) && (b1013.snd.snd.fst == (0 : Int) && b1013.snd.snd.snd == (0 : Int))) then
     bif !ended then
      bif e == want then
       bif b1015.fst == (0 : Int) && (b1015.snd.fst == (0 : Int) && (b1015.snd.snd.fst == (0 : Int) && b1015.snd.snd.snd == (0 : Int))) then
        bif b1016.fst == (0 : Int) && (b1016.snd.fst == (0 : Int) && (b1016.snd.snd.fst == (0 : Int) && b1016.snd.snd.snd == (0 : Int))) then
         bif !over then
          some (g == want)
         else
          some false
        else
         some false
       else
        some false
      else
       some false
     else
      some false
    else
     some false
   else
    some false
  else
   (f10 n l).bind fun r1 =>
   (f15 n b1004).bind fun r2 =>
   (f16 n b1005).bind fun r3 =>
   (f14 n r1 r2 r3).bind fun r4 =>
   (f15 n b1012).bind fun r5 =>
   bif !(r5.fst == r4.fst.fst && (r5.snd.fst == r4.fst.snd.fst && (r5.snd.snd.fst == r4.fst.snd.snd.fst && r5.snd.snd.snd == r4.fst.snd.snd.snd))) then
    some false
   else
    (f17 n r4.snd.fst).bind fun r6 =>
    bif !(b1013.fst == r6.fst && (b1013.snd.fst == r6.snd.fst && (b1013.snd.snd.fst == r6.snd.snd.fst && b1013.snd.snd.snd == r6.snd.snd.snd))) then
     some false
    else
     bif !ended == r4.snd.snd then
      some false
     else
      bif e != (0 : Int) then
       some false
      else
       f4_41 n m l x6 over g r4.snd.snd b1004 b1005 b1015 b1016 r4.fst r4.snd.fst := by kernel_rfl
theorem f4_41_zero (n : Nat) (l : List (Int × (Int × Int))) (x6 : Bool) (over : Bool) (g : Int) (is : Bool) (b1004 : (Int × (Int × (Int × Int)))) (b1005 : ((Int × ByteArray) × (Int × Bool))) (b1015 : (Int × (Int × (Int × Int)))) (b1016 : (Int × (Int × (Int × Int)))) (b1020 : (Int × (Int × (Int × Int)))) (b1021 : (Int × (Int × (Int × Int)))) : f4_41 n 0 l x6 over g is b1004 b1005 b1015 b1016 b1020 b1021 = none := rfl
theorem f4_41_eq (n m : Nat) (l : List (Int × (Int × Int))) (x6 : Bool) (over : Bool) (g : Int) (is : Bool) (b1004 : (Int × (Int × (Int × Int)))) (b1005 : ((Int × ByteArray) × (Int × Bool))) (b1015 : (Int × (Int × (Int × Int)))) (b1016 : (Int × (Int × (Int × Int)))) (b1020 : (Int × (Int × (Int × Int)))) (b1021 : (Int × (Int × (Int × Int)))) : f4_41 n (m + 1) l x6 over g is b1004 b1005 b1015 b1016 b1020 b1021 =
  (f10 n l).bind fun r1 =>
  (f15 n b1004).bind fun r2 =>
  (f16 n b1005).bind fun r3 =>
  (f18 n r1 r2 r3).bind fun r4 =>
  (f15 n b1015).bind fun r5 =>
  bif r5.fst == r4.fst.fst && (r5.snd.fst == r4.fst.snd.fst && (r5.snd.snd.fst == r4.fst.snd.snd.fst && r5.snd.snd.snd == r4.fst.snd.snd.snd)) then
   (f17 n r4.snd.fst).bind fun r6 =>
   bif b1016.fst == r6.fst && (b1016.snd.fst == r6.snd.fst && (b1016.snd.snd.fst == r6.snd.snd.fst && b1016.snd.snd.snd == r6.snd.snd.snd)) then
    bif over == r4.snd.snd then
     some (g == (0 : Int))
    else
     some false
   else
    some false
  else
   some false := by kernel_rfl
theorem f4_eq (n : Nat) (l : List (Int × (Int × Int))) (c : (Int × (Int × (Int × Int)))) (x : ((Int × ByteArray) × (Int × Bool))) : f4 n l c x =
  bif decide (((0 : Nat) + l.length) * (24 : Nat) ≤ Go.Rf.maxBytes) then
   (f8 n l).bind fun r1 =>
   (f10 n l).bind fun r2 =>
   (f9 n r2).bind fun r3 =>
   (f6 n).bind fun r4 =>
   bif !r4 then
    some false
   else
    bif r1.fst != r3.fst then
     some false
    else
     bif r1.snd != r3.snd then
      some false
     else
      f4_13 n n l false r3.snd c x ([] ++ l)
  else
   none := by kernel_rfl
end Go.Proofs.Ytapackaajegjnaa
