/- What functions compute: printed, and checked by the kernel. -/
import Derived.Test.YthdddaikdiaijaaDoorGs
import Derived.Test.YthdddaikdiaijaaDoorRfU
namespace Go.Proofs.YthdddaikdiaijaaDoor
open Go.Rf
/- convoy/convoylaw03.ref -/
noncomputable def c16 : Cfg := ⟨16, Tryd.f16, [(.agg (.pair (.int .i64) (.pair (.int .i64) (.int .i64))))], [(.agg (.pair (.int .i64) (.pair (.int .i64) (.int .i64))))], 4, [], []⟩
noncomputable def T16 (_ : Nat) : Tab := ⟨[], []⟩
noncomputable def e16 (n : Nat) : Entry := c16.entry Tryd.prog (T16 n) n
theorem ok16 {W0 : World} (n : Nat) : FnOK Tryd.prog W0 (e16 n) := c16.sound .nil n Tryd.func16 (by kernel_rfl) (by kernel_rfl)
noncomputable def f16 (n : Nat) (f : (Int × (Int × Int))) : Option ((Int × (Int × Int))) := c16.f Tryd.prog (T16 n) n f
theorem f16_eq (n : Nat) (f : (Int × (Int × Int))) : f16 n f =
  some f := by kernel_rfl
/- convoy/convoyref03.May -/
noncomputable def c17 : Cfg := ⟨17, Tryd.f17, [(.agg (.pair (.int .i64) (.pair (.int .i64) (.int .i64))))], [.bool], 6, [], []⟩
noncomputable def T17 (_ : Nat) : Tab := ⟨[], []⟩
noncomputable def e17 (n : Nat) : Entry := c17.entry Tryd.prog (T17 n) n
theorem ok17 {W0 : World} (n : Nat) : FnOK Tryd.prog W0 (e17 n) := c17.sound .nil n Tryd.func17 (by kernel_rfl) (by kernel_rfl)
noncomputable def f17 (n : Nat) (f : (Int × (Int × Int))) : Option (Bool) := c17.f Tryd.prog (T17 n) n f
theorem f17_eq (n : Nat) (f : (Int × (Int × Int))) : f17 n f =
  bif f.fst == (0 : Int) then
   some (f.fst == (0 : Int) && (f.snd.fst == (0 : Int) && f.snd.snd == (0 : Int)))
  else
   bif f.fst == (1 : Int) then
    bif f.fst == (1 : Int) then
     some (decide (f.snd.snd ≥ (1 : Int)))
    else
     bif f.fst == (3 : Int) then
      bif f.fst == (3 : Int) then
       bif f.snd.fst == (0 : Int) then
        some (f.snd.snd == (0 : Int))
       else
        some false
      else
       bif f.fst == (5 : Int) then
        bif f.snd.fst == (0 : Int) then
         some (decide (f.snd.snd ≥ (1 : Int)))
        else
         some false
       else
        some false
     else
      bif f.fst == (4 : Int) then
       bif f.snd.fst == (0 : Int) then
        some (f.snd.snd == (0 : Int))
       else
        some false
      else
       bif f.fst == (5 : Int) then
        bif f.snd.fst == (0 : Int) then
         some (decide (f.snd.snd ≥ (1 : Int)))
        else
         some false
       else
        some false
   else
    bif f.fst == (2 : Int) then
     some (decide (f.snd.snd ≥ (1 : Int)))
    else
     bif f.fst == (3 : Int) then
      bif f.fst == (3 : Int) then
       bif f.snd.fst == (0 : Int) then
        some (f.snd.snd == (0 : Int))
       else
        some false
      else
       bif f.fst == (5 : Int) then
        bif f.snd.fst == (0 : Int) then
         some (decide (f.snd.snd ≥ (1 : Int)))
        else
         some false
       else
        some false
     else
      bif f.fst == (4 : Int) then
       bif f.snd.fst == (0 : Int) then
        some (f.snd.snd == (0 : Int))
       else
        some false
      else
       bif f.fst == (5 : Int) then
        bif f.snd.fst == (0 : Int) then
         some (decide (f.snd.snd ≥ (1 : Int)))
        else
         some false
       else
        some false := by kernel_rfl
/- convoy/fail.Check -/
noncomputable def c18 : Cfg := ⟨18, Tryd.f18, [(.agg (.pair (.int .i64) (.pair (.int .i64) (.int .i64))))], [(.int .i64)], 6, [], []⟩
noncomputable def T18 (_ : Nat) : Tab := ⟨[], []⟩
noncomputable def e18 (n : Nat) : Entry := c18.entry Tryd.prog (T18 n) n
theorem ok18 {W0 : World} (n : Nat) : FnOK Tryd.prog W0 (e18 n) := c18.sound .nil n Tryd.func18 (by kernel_rfl) (by kernel_rfl)
noncomputable def f18 (n : Nat) (f : (Int × (Int × Int))) : Option (Int) := c18.f Tryd.prog (T18 n) n f
theorem f18_eq (n : Nat) (f : (Int × (Int × Int))) : f18 n f =
  bif f.fst == (0 : Int) then
   bif f.fst == (0 : Int) then
    bif f.snd.fst == (0 : Int) then
     bif !f.snd.snd == (0 : Int) then
      some (30 : Int)
     else
      some (0 : Int)
    else
     some (30 : Int)
   else
    bif f.fst == (1 : Int) then
     bif f.fst == (1 : Int) then
      bif !decide (f.snd.snd ≥ (1 : Int)) then
       some (30 : Int)
      else
       some (0 : Int)
     else
      bif f.fst == (5 : Int) then
       bif f.snd.fst == (0 : Int) then
        bif !decide (f.snd.snd ≥ (1 : Int)) then
         some (30 : Int)
        else
         some (0 : Int)
       else
        some (30 : Int)
      else
       some (30 : Int)
    else
     bif f.fst == (2 : Int) then
      bif !decide (f.snd.snd ≥ (1 : Int)) then
       some (30 : Int)
      else
       some (0 : Int)
     else
      bif f.fst == (5 : Int) then
       bif f.snd.fst == (0 : Int) then
        bif !decide (f.snd.snd ≥ (1 : Int)) then
         some (30 : Int)
        else
         some (0 : Int)
       else
        some (30 : Int)
      else
       some (30 : Int)
  else
   bif f.fst == (3 : Int) then
    bif f.fst == (3 : Int) then
     bif f.snd.fst == (0 : Int) then
      bif !f.snd.snd == (0 : Int) then
       some (30 : Int)
      else
       some (0 : Int)
     else
      some (30 : Int)
    else
     bif f.fst == (1 : Int) then
      bif f.fst == (1 : Int) then
       bif !decide (f.snd.snd ≥ (1 : Int)) then
        some (30 : Int)
       else
        some (0 : Int)
      else
       bif f.fst == (5 : Int) then
        bif f.snd.fst == (0 : Int) then
         bif !decide (f.snd.snd ≥ (1 : Int)) then
          some (30 : Int)
         else
          some (0 : Int)
        else
         some (30 : Int)
       else
        some (30 : Int)
     else
      bif f.fst == (2 : Int) then
       bif !decide (f.snd.snd ≥ (1 : Int)) then
        some (30 : Int)
       else
        some (0 : Int)
      else
       bif f.fst == (5 : Int) then
        bif f.snd.fst == (0 : Int) then
         bif !decide (f.snd.snd ≥ (1 : Int)) then
          some (30 : Int)
         else
          some (0 : Int)
        else
         some (30 : Int)
       else
        some (30 : Int)
   else
    bif f.fst == (4 : Int) then
     bif f.snd.fst == (0 : Int) then
      bif !f.snd.snd == (0 : Int) then
       some (30 : Int)
      else
       some (0 : Int)
     else
      some (30 : Int)
    else
     bif f.fst == (1 : Int) then
      bif f.fst == (1 : Int) then
       bif !decide (f.snd.snd ≥ (1 : Int)) then
        some (30 : Int)
       else
        some (0 : Int)
      else
       bif f.fst == (5 : Int) then
        bif f.snd.fst == (0 : Int) then
         bif !decide (f.snd.snd ≥ (1 : Int)) then
          some (30 : Int)
         else
          some (0 : Int)
        else
         some (30 : Int)
       else
        some (30 : Int)
     else
      bif f.fst == (2 : Int) then
       bif !decide (f.snd.snd ≥ (1 : Int)) then
        some (30 : Int)
       else
        some (0 : Int)
      else
       bif f.fst == (5 : Int) then
        bif f.snd.fst == (0 : Int) then
         bif !decide (f.snd.snd ≥ (1 : Int)) then
          some (30 : Int)
         else
          some (0 : Int)
        else
         some (30 : Int)
       else
        some (30 : Int) := by kernel_rfl
/- convoy/fail.Right -/
noncomputable def c19 : Cfg := ⟨19, Tryd.f19, [(.agg (.pair (.int .i64) (.agg (.pair (.int .i64) (.pair (.int .i64) (.int .i64))))))], [.bool], 5, [], []⟩
noncomputable def T19 (n : Nat) : Tab := ⟨[e18 n], []⟩
noncomputable def e19 (n : Nat) : Entry := c19.entry Tryd.prog (T19 n) n
theorem ok19 {W0 : World} (n : Nat) : FnOK Tryd.prog W0 (e19 n) := c19.sound (.cons (ok18 n) .nil) n Tryd.func19 (by kernel_rfl) (by kernel_rfl)
noncomputable def f19 (n : Nat) (o : (Int × (Int × (Int × Int)))) : Option (Bool) := c19.f Tryd.prog (T19 n) n o
theorem f19_eq (n : Nat) (o : (Int × (Int × (Int × Int)))) : f19 n o =
  (f18 n o.snd).bind fun r1 =>
  bif r1 == (0 : Int) then
   bif o.fst == (0 : Int) then
    some true
   else
    some (o.snd.fst == (0 : Int) && (o.snd.snd.fst == (0 : Int) && o.snd.snd.snd == (0 : Int)))
  else
   some false := by kernel_rfl
/- convoy/convoyref03.Right -/
noncomputable def c20 : Cfg := ⟨20, Tryd.f20, [(.int .i64), (.agg (.pair (.int .i64) (.pair (.int .i64) (.int .i64))))], [.bool], 4, [], []⟩
noncomputable def T20 (n : Nat) : Tab := ⟨[e17 n], []⟩
noncomputable def e20 (n : Nat) : Entry := c20.entry Tryd.prog (T20 n) n
theorem ok20 {W0 : World} (n : Nat) : FnOK Tryd.prog W0 (e20 n) := c20.sound (.cons (ok17 n) .nil) n Tryd.func20 (by kernel_rfl) (by kernel_rfl)
noncomputable def f20 (n : Nat) (value : Int) (f : (Int × (Int × Int))) : Option (Bool) := c20.f Tryd.prog (T20 n) n (value, f)
theorem f20_eq (n : Nat) (value : Int) (f : (Int × (Int × Int))) : f20 n value f =
  (f17 n f).bind fun r1 =>
  bif r1 then
   bif f.fst == (0 : Int) && (f.snd.fst == (0 : Int) && f.snd.snd == (0 : Int)) then
    some true
   else
    some (value == (0 : Int))
  else
   some false := by kernel_rfl
/- convoy/fail.Same -/
noncomputable def c21 : Cfg := ⟨21, Tryd.f21, [(.agg (.pair (.int .i64) (.pair (.int .i64) (.int .i64)))), (.agg (.pair (.int .i64) (.pair (.int .i64) (.int .i64))))], [.bool], 3, [], []⟩
noncomputable def T21 (_ : Nat) : Tab := ⟨[], []⟩
noncomputable def e21 (n : Nat) : Entry := c21.entry Tryd.prog (T21 n) n
theorem ok21 {W0 : World} (n : Nat) : FnOK Tryd.prog W0 (e21 n) := c21.sound .nil n Tryd.func21 (by kernel_rfl) (by kernel_rfl)
noncomputable def f21 (n : Nat) (a : (Int × (Int × Int))) (b : (Int × (Int × Int))) : Option (Bool) := c21.f Tryd.prog (T21 n) n (a, b)
theorem f21_eq (n : Nat) (a : (Int × (Int × Int))) (b : (Int × (Int × Int))) : f21 n a b =
  some (a.fst == b.fst && (a.snd.fst == b.snd.fst && a.snd.snd == b.snd.snd)) := by kernel_rfl
/- convoy/convoyref03.less -/
noncomputable def c31 : Cfg := ⟨31, Tryd.f31, [(.int .i64), (.int .i64)], [(.int .i64)], 4, [], []⟩
noncomputable def T31 (_ : Nat) : Tab := ⟨[], []⟩
noncomputable def e31 (n : Nat) : Entry := c31.entry Tryd.prog (T31 n) n
theorem ok31 {W0 : World} (n : Nat) : FnOK Tryd.prog W0 (e31 n) := c31.sound .nil n Tryd.func31 (by kernel_rfl) (by kernel_rfl)
noncomputable def f31 (n : Nat) (a : Int) (b : Int) : Option (Int) := c31.f Tryd.prog (T31 n) n (a, b)
theorem f31_eq (n : Nat) (a : Int) (b : Int) : f31 n a b =
  bif decide (a < b) then
   some (-1 : Int)
  else
   bif decide (a > b) then
    some (1 : Int)
   else
    some (0 : Int) := by kernel_rfl
/- convoy/convoyref03.Compare -/
noncomputable def c23 : Cfg := ⟨23, Tryd.f23, [(.agg (.pair (.int .i64) (.pair (.int .i64) (.int .i64)))), (.agg (.pair (.int .i64) (.pair (.int .i64) (.int .i64))))], [(.int .i64)], 5, [], []⟩
noncomputable def T23 (n : Nat) : Tab := ⟨[e31 n], []⟩
noncomputable def e23 (n : Nat) : Entry := c23.entry Tryd.prog (T23 n) n
theorem ok23 {W0 : World} (n : Nat) : FnOK Tryd.prog W0 (e23 n) := c23.sound (.cons (ok31 n) .nil) n Tryd.func23 (by kernel_rfl) (by kernel_rfl)
noncomputable def f23 (n : Nat) (a : (Int × (Int × Int))) (b : (Int × (Int × Int))) : Option (Int) := c23.f Tryd.prog (T23 n) n (a, b)
theorem f23_eq (n : Nat) (a : (Int × (Int × Int))) (b : (Int × (Int × Int))) : f23 n a b =
  (f31 n a.fst b.fst).bind fun r1 =>
  bif r1 != (0 : Int) then
   some r1
  else
   (f31 n a.snd.snd b.snd.snd).bind fun r2 =>
   bif r2 != (0 : Int) then
    some r2
   else
    (f31 n a.snd.fst b.snd.fst).bind fun r3 =>
    some r3 := by kernel_rfl
/- cmp.isNaN[int] -/
noncomputable def c41 : Cfg := ⟨41, Tryd.f41, [(.int .i64)], [.bool], 3, [], []⟩
noncomputable def T41 (_ : Nat) : Tab := ⟨[], []⟩
noncomputable def e41 (n : Nat) : Entry := c41.entry Tryd.prog (T41 n) n
theorem ok41 {W0 : World} (n : Nat) : FnOK Tryd.prog W0 (e41 n) := c41.sound .nil n Tryd.func41 (by kernel_rfl) (by kernel_rfl)
noncomputable def f41 (n : Nat) (x : Int) : Option (Bool) := c41.f Tryd.prog (T41 n) n x
theorem f41_eq (n : Nat) (x : Int) : f41 n x =
  some (x != x) := by kernel_rfl
/- cmp.Compare[int] -/
noncomputable def c30 : Cfg := ⟨30, Tryd.f30, [(.int .i64), (.int .i64)], [(.int .i64)], 5, [], []⟩
noncomputable def T30 (n : Nat) : Tab := ⟨[e41 n], []⟩
noncomputable def e30 (n : Nat) : Entry := c30.entry Tryd.prog (T30 n) n
theorem ok30 {W0 : World} (n : Nat) : FnOK Tryd.prog W0 (e30 n) := c30.sound (.cons (ok41 n) .nil) n Tryd.func30 (by kernel_rfl) (by kernel_rfl)
noncomputable def f30 (n : Nat) (x : Int) (y : Int) : Option (Int) := c30.f Tryd.prog (T30 n) n (x, y)
theorem f30_eq (n : Nat) (x : Int) (y : Int) : f30 n x y =
  (f41 n x).bind fun r1 =>
  (f41 n y).bind fun r2 =>
  bif r1 then
   bif r2 then
    some (0 : Int)
   else
    some (-1 : Int)
  else
   bif r2 then
    some (1 : Int)
   else
    bif decide (x < y) then
     some (-1 : Int)
    else
     bif decide (x > y) then
      some (1 : Int)
     else
      some (0 : Int) := by kernel_rfl
/- cmp.Or[int] -/
noncomputable def c29 : Cfg := ⟨29, Tryd.f29, [(.sl 3 (.int .i64))], [(.int .i64)], 5, [], [(6, ⟨18, 5, [(3, (.val (.int .i64))), (6, (.val (.sl 3 (.int .i64)))), (7, (.val (.int .i64))), (8, (.val (.int .i64)))], []⟩)]⟩
noncomputable def T29 (_ : Nat) : Tab := ⟨[], []⟩
noncomputable def e29 (n : Nat) : Entry := c29.entry Tryd.prog (T29 n) n
theorem ok29 {W0 : World} (n : Nat) : FnOK Tryd.prog W0 (e29 n) := c29.sound .nil n Tryd.func29 (by kernel_rfl) (by kernel_rfl)
noncomputable def f29 (n : Nat) (vals : List Int) : Option (Int) := c29.f Tryd.prog (T29 n) n vals
noncomputable def f29_6 (n m : Nat) (zero : Int) (x6 : List Int) (x7 : Int) (x8 : Int) : Option (Int) := c29.LL Tryd.prog (T29 n) m 6 (zero, x6, x7, x8) ()
theorem f29_6_zero (n : Nat) (zero : Int) (x6 : List Int) (x7 : Int) (x8 : Int) : f29_6 n 0 zero x6 x7 x8 = none := rfl
theorem f29_6_eq (n m : Nat) (zero : Int) (x6 : List Int) (x7 : Int) (x8 : Int) : f29_6 n (m + 1) zero x6 x7 x8 =
  bif decide (x8 < x7) then
   bif decide ((0 : Int) ≤ x8 ∧ x8 < ↑x6.length) then
    bif x6.getD x8.toNat (0 : Int) != zero then
     some (x6.getD x8.toNat (0 : Int))
    else
     f29_6 n m zero x6 x7 (Go.IntKind.i64.wrap (x8 + (1 : Int)))
   else
    none
  else
   some zero := by kernel_rfl
theorem f29_eq (n : Nat) (vals : List Int) : f29 n vals =
  f29_6 n n (0 : Int) vals ↑vals.length (0 : Int) := by kernel_rfl
/- convoy/fail.Compare -/
noncomputable def c22 : Cfg := ⟨22, Tryd.f22, [(.agg (.pair (.int .i64) (.pair (.int .i64) (.int .i64)))), (.agg (.pair (.int .i64) (.pair (.int .i64) (.int .i64))))], [(.int .i64)], 5, [], []⟩
noncomputable def T22 (n : Nat) : Tab := ⟨[e30 n, e29 n], []⟩
noncomputable def e22 (n : Nat) : Entry := c22.entry Tryd.prog (T22 n) n
theorem ok22 {W0 : World} (n : Nat) : FnOK Tryd.prog W0 (e22 n) := c22.sound (.cons (ok30 n) (.cons (ok29 n) .nil)) n Tryd.func22 (by kernel_rfl) (by kernel_rfl)
noncomputable def f22 (n : Nat) (a : (Int × (Int × Int))) (b : (Int × (Int × Int))) : Option (Int) := c22.f Tryd.prog (T22 n) n (a, b)
theorem f22_eq (n : Nat) (a : (Int × (Int × Int))) (b : (Int × (Int × Int))) : f22 n a b =
  (f30 n a.fst b.fst).bind fun r1 =>
  (f30 n a.snd.snd b.snd.snd).bind fun r2 =>
  (f30 n a.snd.fst b.snd.fst).bind fun r3 =>
  (f29 n [r1, r2, r3]).bind fun r4 =>
  some r4 := by kernel_rfl
noncomputable def s33x0 : ByteArray := { data := #[108, 111, 97, 100] }
noncomputable def s33x1 : ByteArray := { data := #[112, 97, 110, 105, 99] }
noncomputable def s33x2 : ByteArray := { data := #[99, 97, 110, 99, 101, 108] }
noncomputable def s33x3 : ByteArray := { data := #[98, 117, 115, 121] }
noncomputable def s33x4 : ByteArray := { data := #[97, 98, 111, 114, 116] }
noncomputable def s33x5 : ByteArray := { data := #[107, 105, 110, 100] }
/- convoy/fail.word -/
noncomputable def c33 : Cfg := ⟨33, Tryd.f33, [(.int .i64)], [.str], 5, [], []⟩
noncomputable def T33 (n : Nat) : Tab := ⟨[e36L n], []⟩
noncomputable def e33 (n : Nat) : Entry := c33.entry Tryd.prog (T33 n) n
theorem ok33 {W0 : World} (hL : Laid W0) (n : Nat) : FnOK Tryd.prog W0 (e33 n) := c33.sound (.cons (ok36L hL n) .nil) n Tryd.func33 (by kernel_rfl) (by kernel_rfl)
noncomputable def f33 (n : Nat) (kind : Int) : Option (ByteArray) := c33.f Tryd.prog (T33 n) n kind
theorem f33_eq (n : Nat) (kind : Int) : f33 n kind =
  bif kind == (1 : Int) then
   some s33x0
  else
   bif kind == (2 : Int) then
    some s33x1
   else
    bif kind == (3 : Int) then
     some s33x2
    else
     bif kind == (4 : Int) then
      some s33x3
     else
      bif kind == (5 : Int) then
       some s33x4
      else
       (f36L n kind).bind fun r1 =>
       bif decide ((↑((4 : Nat) + ByteArray.size r1) : Int) > Int.ofNat (9223372036854775807 : Nat)) then
        none
       else
        some (s33x5 ++ r1) := by kernel_rfl
noncomputable def s26x0 : ByteArray := { data := #[110, 111, 110, 101] }
noncomputable def s26x1 : ByteArray := { data := #[32] }
/- convoy/fail.Text -/
noncomputable def c26 : Cfg := ⟨26, Tryd.f26, [(.agg (.pair (.int .i64) (.pair (.int .i64) (.int .i64))))], [.str], 5, [], []⟩
noncomputable def T26 (n : Nat) : Tab := ⟨[e33 n, e36L n], []⟩
noncomputable def e26 (n : Nat) : Entry := c26.entry Tryd.prog (T26 n) n
theorem ok26 {W0 : World} (hL : Laid W0) (n : Nat) : FnOK Tryd.prog W0 (e26 n) := c26.sound (.cons (ok33 hL n) (.cons (ok36L hL n) .nil)) n Tryd.func26 (by kernel_rfl) (by kernel_rfl)
noncomputable def f26 (n : Nat) (f : (Int × (Int × Int))) : Option (ByteArray) := c26.f Tryd.prog (T26 n) n f
theorem f26_eq (n : Nat) (f : (Int × (Int × Int))) : f26 n f =
  bif f.fst == (0 : Int) && (f.snd.fst == (0 : Int) && f.snd.snd == (0 : Int)) then
   some s26x0
  else
   (f33 n f.fst).bind fun r1 =>
   bif decide ((↑(ByteArray.size r1 + (1 : Nat)) : Int) > Int.ofNat (9223372036854775807 : Nat)) then
    none
   else
    (f36L n f.snd.fst).bind fun r2 =>
    bif decide ((↑((r1 ++ s26x1).size + ByteArray.size r2) : Int) > Int.ofNat (9223372036854775807 : Nat)) then
     none
    else
     bif decide ((↑((r1 ++ s26x1 ++ r2).size + (1 : Nat)) : Int) > Int.ofNat (9223372036854775807 : Nat)) then
      none
     else
      (f36L n f.snd.snd).bind fun r3 =>
      bif decide ((↑((r1 ++ s26x1 ++ r2 ++ s26x1).size + ByteArray.size r3) : Int) > Int.ofNat (9223372036854775807 : Nat)) then
       none
      else
       some (r1 ++ s26x1 ++ r2 ++ s26x1 ++ r3) := by kernel_rfl
noncomputable def s28x0 : ByteArray := { data := #[45] }
/- convoy/convoyref03.Number -/
noncomputable def c28 : Cfg := ⟨28, Tryd.f28, [(.int .i64)], [.str], 6, [3], [(7, ⟨44, 6, [(0, (.val (.int .i64))), (2, (.val .str))], []⟩)]⟩
noncomputable def f28 : Nat → Int → Option (ByteArray)
  | 0, _ => none
  | n + 1, a0 => c28.f Tryd.prog ⟨[⟨28, [(.int .i64)], [.str], fun y => f28 n y⟩], []⟩ (n + 1) a0
noncomputable def e28 (n : Nat) : Entry := ⟨28, [(.int .i64)], [.str], fun y => f28 n y⟩
noncomputable def T28 (n : Nat) : Tab := ⟨[⟨28, [(.int .i64)], [.str], fun y => f28 n y⟩], []⟩
theorem ok28 {W0 : World} : ∀ n : Nat, FnOK Tryd.prog W0 (e28 n)
  | 0 => fun _ _ _ _ _ h => by cases h
  | n + 1 => c28.sound (C := T28 n) (.cons (ok28 n) .nil) (n + 1) Tryd.func28 (by kernel_rfl) (by kernel_rfl)
noncomputable def f28_7 (n m : Nat) (x0 : Int) (x2 : ByteArray) : Option (ByteArray) := c28.LL Tryd.prog (T28 n) m 7 (x0, x2) ()
theorem f28_7_zero (n : Nat) (x0 : Int) (x2 : ByteArray) : f28_7 n 0 x0 x2 = none := rfl
theorem f28_7_eq (n m : Nat) (x0 : Int) (x2 : ByteArray) : f28_7 n (m + 1) x0 x2 =
  bif decide (x0 ≥ (10 : Int)) then
   Go.Rf.both ((f28 n (Go.IntKind.i64.wrap (x0.tdiv (10 : Int)))).bind fun r1 =>
    bif decide ((↑(ByteArray.size r1 + (Go.Rf.mkBytes [Go.IntKind.u8.wrap (Go.IntKind.i64.wrap ((48 : Int) + x0.tmod (10 : Int)))]).size) : Int) > Int.ofNat (9223372036854775807 : Nat)) then
     none
    else
     some (r1 ++ Go.Rf.mkBytes [Go.IntKind.u8.wrap (Go.IntKind.i64.wrap ((48 : Int) + x0.tmod (10 : Int)))]))
    ((f28 n (Go.IntKind.i64.wrap (x0.tdiv (10 : Int)))).bind fun r2 =>
    bif decide ((↑(ByteArray.size r2 + (Go.Rf.mkBytes [Go.IntKind.u8.wrap (Go.IntKind.i64.wrap ((48 : Int) + x0.tmod (10 : Int)))]).size) : Int) > Int.ofNat (9223372036854775807 : Nat)) then
     none
    else
     some (r2 ++ Go.Rf.mkBytes [Go.IntKind.u8.wrap (Go.IntKind.i64.wrap ((48 : Int) + x0.tmod (10 : Int)))]))
  else
   bif decide (x0 > (-10 : Int)) then
    some (s28x0 ++ Go.Rf.mkBytes [Go.IntKind.u8.wrap (Go.IntKind.i64.wrap ((48 : Int) - x0))])
   else
    Go.Rf.both ((f28 n (Go.IntKind.i64.wrap (x0.tdiv (10 : Int)))).bind fun r3 =>
     bif decide ((↑(ByteArray.size r3 + (Go.Rf.mkBytes [Go.IntKind.u8.wrap (Go.IntKind.i64.wrap ((48 : Int) - x0.tmod (10 : Int)))]).size) : Int) > Int.ofNat (9223372036854775807 : Nat)) then
      none
     else
      some (r3 ++ Go.Rf.mkBytes [Go.IntKind.u8.wrap (Go.IntKind.i64.wrap ((48 : Int) - x0.tmod (10 : Int)))]))
     ((f28 n (Go.IntKind.i64.wrap (x0.tdiv (10 : Int)))).bind fun r4 =>
     bif decide ((↑(ByteArray.size r4 + (Go.Rf.mkBytes [Go.IntKind.u8.wrap (Go.IntKind.i64.wrap ((48 : Int) - x0.tmod (10 : Int)))]).size) : Int) > Int.ofNat (9223372036854775807 : Nat)) then
      none
     else
      some (r4 ++ Go.Rf.mkBytes [Go.IntKind.u8.wrap (Go.IntKind.i64.wrap ((48 : Int) - x0.tmod (10 : Int)))])) := by kernel_rfl
theorem f28_eq (n : Nat) (a0 : Int) : f28 (n + 1) a0 =
  bif decide (a0 ≥ (0 : Int)) then
   bif decide (a0 < (10 : Int)) then
    some (Go.Rf.mkBytes [Go.IntKind.u8.wrap (Go.IntKind.i64.wrap ((48 : Int) + a0))])
   else
    f28_7 n (n + 1) a0 ByteArray.empty
  else
   f28_7 n (n + 1) a0 ByteArray.empty := by kernel_rfl
noncomputable def s15x0 : ByteArray := { data := #[110, 111, 110, 101] }
noncomputable def s15x1 : ByteArray := { data := #[108, 111, 97, 100] }
noncomputable def s15x2 : ByteArray := { data := #[32] }
noncomputable def s15x3 : ByteArray := { data := #[112, 97, 110, 105, 99] }
noncomputable def s15x4 : ByteArray := { data := #[99, 97, 110, 99, 101, 108] }
noncomputable def s15x5 : ByteArray := { data := #[98, 117, 115, 121] }
noncomputable def s15x6 : ByteArray := { data := #[97, 98, 111, 114, 116] }
noncomputable def s15x7 : ByteArray := { data := #[107, 105, 110, 100] }
/- convoy/convoyref03.Text -/
noncomputable def c15 : Cfg := ⟨15, Tryd.f15, [(.agg (.pair (.int .i64) (.pair (.int .i64) (.int .i64))))], [.str], 6, [], []⟩
noncomputable def T15 (n : Nat) : Tab := ⟨[e28 n], []⟩
noncomputable def e15 (n : Nat) : Entry := c15.entry Tryd.prog (T15 n) n
theorem ok15 {W0 : World} (n : Nat) : FnOK Tryd.prog W0 (e15 n) := c15.sound (.cons (ok28 n) .nil) n Tryd.func15 (by kernel_rfl) (by kernel_rfl)
noncomputable def f15 (n : Nat) (f : (Int × (Int × Int))) : Option (ByteArray) := c15.f Tryd.prog (T15 n) n f
theorem f15_eq (n : Nat) (f : (Int × (Int × Int))) : f15 n f =
  bif f.fst == (0 : Int) && (f.snd.fst == (0 : Int) && f.snd.snd == (0 : Int)) then
   some s15x0
  else
   (f28 n f.fst).bind fun r1 =>
   bif decide ((↑((4 : Nat) + ByteArray.size r1) : Int) > Int.ofNat (9223372036854775807 : Nat)) then
    none
   else
    bif f.fst == (1 : Int) then
     (f28 n f.snd.fst).bind fun r2 =>
     bif decide ((↑((5 : Nat) + ByteArray.size r2) : Int) > Int.ofNat (9223372036854775807 : Nat)) then
      none
     else
      bif decide ((↑((s15x1 ++ s15x2 ++ r2).size + (1 : Nat)) : Int) > Int.ofNat (9223372036854775807 : Nat)) then
       none
      else
       (f28 n f.snd.snd).bind fun r3 =>
       bif decide ((↑((s15x1 ++ s15x2 ++ r2 ++ s15x2).size + ByteArray.size r3) : Int) > Int.ofNat (9223372036854775807 : Nat)) then
        none
       else
        some (s15x1 ++ s15x2 ++ r2 ++ s15x2 ++ r3)
    else
     bif f.fst == (2 : Int) then
      (f28 n f.snd.fst).bind fun r4 =>
      bif decide ((↑((6 : Nat) + ByteArray.size r4) : Int) > Int.ofNat (9223372036854775807 : Nat)) then
       none
      else
       bif decide ((↑((s15x3 ++ s15x2 ++ r4).size + (1 : Nat)) : Int) > Int.ofNat (9223372036854775807 : Nat)) then
        none
       else
        (f28 n f.snd.snd).bind fun r5 =>
        bif decide ((↑((s15x3 ++ s15x2 ++ r4 ++ s15x2).size + ByteArray.size r5) : Int) > Int.ofNat (9223372036854775807 : Nat)) then
         none
        else
         some (s15x3 ++ s15x2 ++ r4 ++ s15x2 ++ r5)
     else
      bif f.fst == (3 : Int) then
       (f28 n f.snd.fst).bind fun r6 =>
       bif decide ((↑((7 : Nat) + ByteArray.size r6) : Int) > Int.ofNat (9223372036854775807 : Nat)) then
        none
       else
        bif decide ((↑((s15x4 ++ s15x2 ++ r6).size + (1 : Nat)) : Int) > Int.ofNat (9223372036854775807 : Nat)) then
         none
        else
         (f28 n f.snd.snd).bind fun r7 =>
         bif decide ((↑((s15x4 ++ s15x2 ++ r6 ++ s15x2).size + ByteArray.size r7) : Int) > Int.ofNat (9223372036854775807 : Nat)) then
          none
         else
          some (s15x4 ++ s15x2 ++ r6 ++ s15x2 ++ r7)
      else
       bif f.fst == (4 : Int) then
        (f28 n f.snd.fst).bind fun r8 =>
        bif decide ((↑((5 : Nat) + ByteArray.size r8) : Int) > Int.ofNat (9223372036854775807 : Nat)) then
         none
        else
         bif decide ((↑((s15x5 ++ s15x2 ++ r8).size + (1 : Nat)) : Int) > Int.ofNat (9223372036854775807 : Nat)) then
          none
         else
          (f28 n f.snd.snd).bind fun r9 =>
          bif decide ((↑((s15x5 ++ s15x2 ++ r8 ++ s15x2).size + ByteArray.size r9) : Int) > Int.ofNat (9223372036854775807 : Nat)) then
           none
          else
           some (s15x5 ++ s15x2 ++ r8 ++ s15x2 ++ r9)
       else
        bif f.fst == (5 : Int) then
         (f28 n f.snd.fst).bind fun r10 =>
         bif decide ((↑((6 : Nat) + ByteArray.size r10) : Int) > Int.ofNat (9223372036854775807 : Nat)) then
          none
         else
          bif decide ((↑((s15x6 ++ s15x2 ++ r10).size + (1 : Nat)) : Int) > Int.ofNat (9223372036854775807 : Nat)) then
           none
          else
           (f28 n f.snd.snd).bind fun r11 =>
           bif decide ((↑((s15x6 ++ s15x2 ++ r10 ++ s15x2).size + ByteArray.size r11) : Int) > Int.ofNat (9223372036854775807 : Nat)) then
            none
           else
            some (s15x6 ++ s15x2 ++ r10 ++ s15x2 ++ r11)
        else
         bif decide ((↑((s15x7 ++ r1).size + (1 : Nat)) : Int) > Int.ofNat (9223372036854775807 : Nat)) then
          none
         else
          (f28 n f.snd.fst).bind fun r12 =>
          bif decide ((↑((s15x7 ++ r1 ++ s15x2).size + ByteArray.size r12) : Int) > Int.ofNat (9223372036854775807 : Nat)) then
           none
          else
           bif decide ((↑((s15x7 ++ r1 ++ s15x2 ++ r12).size + (1 : Nat)) : Int) > Int.ofNat (9223372036854775807 : Nat)) then
            none
           else
            (f28 n f.snd.snd).bind fun r13 =>
            bif decide ((↑((s15x7 ++ r1 ++ s15x2 ++ r12 ++ s15x2).size + ByteArray.size r13) : Int) > Int.ofNat (9223372036854775807 : Nat)) then
             none
            else
             some (s15x7 ++ r1 ++ s15x2 ++ r12 ++ s15x2 ++ r13) := by kernel_rfl
end Go.Proofs.YthdddaikdiaijaaDoor
