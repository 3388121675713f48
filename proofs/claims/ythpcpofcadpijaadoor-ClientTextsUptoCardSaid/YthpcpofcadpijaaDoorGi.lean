/- What functions compute: printed, and checked by the kernel. -/
import Derived.Test.YthpcpofcadpijaaDoorGg
import Derived.Test.YthpcpofcadpijaaDoorGs2
namespace Go.Proofs.YthpcpofcadpijaaDoor
open Go.Rf
/- convoy/convoyref02.digits -/
noncomputable def c74 : Cfg := ⟨74, Tryd.f74, [(.int .i64)], [.str], 5, [], [(4, ⟨23, 5, [(0, (.val (.int .i64))), (3, (.val .str))], []⟩)]⟩
noncomputable def T74 (_ : Nat) : Tab := ⟨[], []⟩
noncomputable def e74 (n : Nat) : Entry := c74.entry Tryd.prog (T74 n) n
theorem ok74 {W0 : World} (n : Nat) : FnOK Tryd.prog W0 (e74 n) := c74.sound .nil n Tryd.func74 (by kernel_rfl) (by kernel_rfl)
noncomputable def f74 (n : Nat) (a0 : Int) : Option (ByteArray) := c74.f Tryd.prog (T74 n) n a0
noncomputable def f74_4 (n m : Nat) (x0 : Int) (s : ByteArray) : Option (ByteArray) := c74.LL Tryd.prog (T74 n) m 4 (x0, s) ()
theorem f74_4_zero (n : Nat) (x0 : Int) (s : ByteArray) : f74_4 n 0 x0 s = none := rfl
theorem f74_4_eq (n m : Nat) (x0 : Int) (s : ByteArray) : f74_4 n (m + 1) x0 s =
  bif decide (x0 ≥ (10 : Int)) then
   bif decide ((↑((Go.Rf.mkBytes [Go.IntKind.u8.wrap (Go.IntKind.i64.wrap ((48 : Int) + x0.tmod (10 : Int)))]).size + s.size) : Int) > Int.ofNat (9223372036854775807 : Nat)) then
    none
   else
    f74_4 n m (Go.IntKind.i64.wrap (x0.tdiv (10 : Int))) (Go.Rf.mkBytes [Go.IntKind.u8.wrap (Go.IntKind.i64.wrap ((48 : Int) + x0.tmod (10 : Int)))] ++ s)
  else
   bif decide ((↑((Go.Rf.mkBytes [Go.IntKind.u8.wrap (Go.IntKind.i64.wrap ((48 : Int) + x0))]).size + s.size) : Int) > Int.ofNat (9223372036854775807 : Nat)) then
    none
   else
    some (Go.Rf.mkBytes [Go.IntKind.u8.wrap (Go.IntKind.i64.wrap ((48 : Int) + x0))] ++ s) := by kernel_rfl
theorem f74_eq (n : Nat) (a0 : Int) : f74 n a0 =
  f74_4 n n a0 ByteArray.empty := by kernel_rfl
noncomputable def s59x0 : ByteArray := { data := #[58] }
/- convoy/convoyref02.Text -/
noncomputable def c59 : Cfg := ⟨59, Tryd.f59, [(.agg (.pair (.int .u16) .str))], [.str, .bool], 4, [], []⟩
noncomputable def T59 (n : Nat) : Tab := ⟨[e74 n], []⟩
noncomputable def e59 (n : Nat) : Entry := c59.entry Tryd.prog (T59 n) n
theorem ok59 {W0 : World} (n : Nat) : FnOK Tryd.prog W0 (e59 n) := c59.sound (.cons (ok74 n) .nil) n Tryd.func59 (by kernel_rfl) (by kernel_rfl)
noncomputable def f59 (n : Nat) (k : (Int × ByteArray)) : Option (ByteArray × Bool) := c59.f Tryd.prog (T59 n) n k
theorem f59_eq (n : Nat) (k : (Int × ByteArray)) : f59 n k =
  bif decide ((↑(ByteArray.size k.snd) : Int) > (64 : Int)) then
   some (ByteArray.empty, false)
  else
   (f74 n (Go.IntKind.i64.wrap k.fst)).bind fun r1 =>
   bif decide ((↑(ByteArray.size r1 + (1 : Nat)) : Int) > Int.ofNat (9223372036854775807 : Nat)) then
    none
   else
    bif decide ((↑((r1 ++ s59x0).size + ByteArray.size k.snd) : Int) > Int.ofNat (9223372036854775807 : Nat)) then
     none
    else
     some (r1 ++ s59x0 ++ k.snd, true) := by kernel_rfl
noncomputable def s60x0 : ByteArray := { data := #[45] }
/- convoy/convoyref03.Number -/
noncomputable def c60 : Cfg := ⟨60, Tryd.f60, [(.int .i64)], [.str], 6, [3], [(7, ⟨44, 6, [(0, (.val (.int .i64))), (2, (.val .str))], []⟩)]⟩
noncomputable def f60 : Nat → Int → Option (ByteArray)
  | 0, _ => none
  | n + 1, a0 => c60.f Tryd.prog ⟨[⟨60, [(.int .i64)], [.str], fun y => f60 n y⟩], []⟩ (n + 1) a0
noncomputable def e60 (n : Nat) : Entry := ⟨60, [(.int .i64)], [.str], fun y => f60 n y⟩
noncomputable def T60 (n : Nat) : Tab := ⟨[⟨60, [(.int .i64)], [.str], fun y => f60 n y⟩], []⟩
theorem ok60 {W0 : World} : ∀ n : Nat, FnOK Tryd.prog W0 (e60 n)
  | 0 => fun _ _ _ _ _ h => by cases h
  | n + 1 => c60.sound (C := T60 n) (.cons (ok60 n) .nil) (n + 1) Tryd.func60 (by kernel_rfl) (by kernel_rfl)
noncomputable def f60_7 (n m : Nat) (x0 : Int) (x2 : ByteArray) : Option (ByteArray) := c60.LL Tryd.prog (T60 n) m 7 (x0, x2) ()
theorem f60_7_zero (n : Nat) (x0 : Int) (x2 : ByteArray) : f60_7 n 0 x0 x2 = none := rfl
theorem f60_7_eq (n m : Nat) (x0 : Int) (x2 : ByteArray) : f60_7 n (m + 1) x0 x2 =
  bif decide (x0 ≥ (10 : Int)) then
   Go.Rf.both ((f60 n (Go.IntKind.i64.wrap (x0.tdiv (10 : Int)))).bind fun r1 =>
    bif decide ((↑(ByteArray.size r1 + (Go.Rf.mkBytes [Go.IntKind.u8.wrap (Go.IntKind.i64.wrap ((48 : Int) + x0.tmod (10 : Int)))]).size) : Int) > Int.ofNat (9223372036854775807 : Nat)) then
     none
    else
     some (r1 ++ Go.Rf.mkBytes [Go.IntKind.u8.wrap (Go.IntKind.i64.wrap ((48 : Int) + x0.tmod (10 : Int)))]))
    ((f60 n (Go.IntKind.i64.wrap (x0.tdiv (10 : Int)))).bind fun r2 =>
    bif decide ((↑(ByteArray.size r2 + (Go.Rf.mkBytes [Go.IntKind.u8.wrap (Go.IntKind.i64.wrap ((48 : Int) + x0.tmod (10 : Int)))]).size) : Int) > Int.ofNat (9223372036854775807 : Nat)) then
     none
    else
     some (r2 ++ Go.Rf.mkBytes [Go.IntKind.u8.wrap (Go.IntKind.i64.wrap ((48 : Int) + x0.tmod (10 : Int)))]))
  else
   bif decide (x0 > (-10 : Int)) then
    some (s60x0 ++ Go.Rf.mkBytes [Go.IntKind.u8.wrap (Go.IntKind.i64.wrap ((48 : Int) - x0))])
   else
    Go.Rf.both ((f60 n (Go.IntKind.i64.wrap (x0.tdiv (10 : Int)))).bind fun r3 =>
     bif decide ((↑(ByteArray.size r3 + (Go.Rf.mkBytes [Go.IntKind.u8.wrap (Go.IntKind.i64.wrap ((48 : Int) - x0.tmod (10 : Int)))]).size) : Int) > Int.ofNat (9223372036854775807 : Nat)) then
      none
     else
      some (r3 ++ Go.Rf.mkBytes [Go.IntKind.u8.wrap (Go.IntKind.i64.wrap ((48 : Int) - x0.tmod (10 : Int)))]))
     ((f60 n (Go.IntKind.i64.wrap (x0.tdiv (10 : Int)))).bind fun r4 =>
     bif decide ((↑(ByteArray.size r4 + (Go.Rf.mkBytes [Go.IntKind.u8.wrap (Go.IntKind.i64.wrap ((48 : Int) - x0.tmod (10 : Int)))]).size) : Int) > Int.ofNat (9223372036854775807 : Nat)) then
      none
     else
      some (r4 ++ Go.Rf.mkBytes [Go.IntKind.u8.wrap (Go.IntKind.i64.wrap ((48 : Int) - x0.tmod (10 : Int)))])) := by kernel_rfl
theorem f60_eq (n : Nat) (a0 : Int) : f60 (n + 1) a0 =
  bif decide (a0 ≥ (0 : Int)) then
   bif decide (a0 < (10 : Int)) then
    some (Go.Rf.mkBytes [Go.IntKind.u8.wrap (Go.IntKind.i64.wrap ((48 : Int) + a0))])
   else
    f60_7 n (n + 1) a0 ByteArray.empty
  else
   f60_7 n (n + 1) a0 ByteArray.empty := by kernel_rfl
noncomputable def s44x0 : ByteArray := { data := #[32] }
/- convoy/convoyref21.Line -/
noncomputable def c44 : Cfg := ⟨44, Tryd.f44, [(.agg (.pair (.int .i64) (.pair (.agg (.pair (.int .u16) .str)) (.pair (.int .i64) (.int .i64)))))], [.str], 6, [], []⟩
noncomputable def T44 (n : Nat) : Tab := ⟨[e48 n, e59 n, e60 n], []⟩
noncomputable def e44 (n : Nat) : Entry := c44.entry Tryd.prog (T44 n) n
theorem ok44 {W0 : World} (n : Nat) : FnOK Tryd.prog W0 (e44 n) := c44.sound (.cons (ok48 n) (.cons (ok59 n) (.cons (ok60 n) .nil))) n Tryd.func44 (by kernel_rfl) (by kernel_rfl)
noncomputable def f44 (n : Nat) (d : (Int × ((Int × ByteArray) × (Int × Int)))) : Option (ByteArray) := c44.f Tryd.prog (T44 n) n d
theorem f44_eq (n : Nat) (d : (Int × ((Int × ByteArray) × (Int × Int)))) : f44 n d =
  (f48 n d.fst).bind fun r1 =>
  bif r1.snd.fst then
   (f59 n d.snd.fst).bind fun r2 =>
   bif decide ((↑((1 : Nat) + ByteArray.size r2.fst) : Int) > Int.ofNat (9223372036854775807 : Nat)) then
    none
   else
    bif decide ((↑(ByteArray.size r1.fst + (s44x0 ++ r2.fst).size) : Int) > Int.ofNat (9223372036854775807 : Nat)) then
     none
    else
     bif r1.snd.snd.fst then
      (f60 n d.snd.snd.snd).bind fun r3 =>
      bif decide ((↑((1 : Nat) + ByteArray.size r3) : Int) > Int.ofNat (9223372036854775807 : Nat)) then
       none
      else
       bif decide ((↑((r1.fst ++ (s44x0 ++ r2.fst)).size + (s44x0 ++ r3).size) : Int) > Int.ofNat (9223372036854775807 : Nat)) then
        none
       else
        bif r1.snd.snd.snd.fst then
         (f60 n d.snd.snd.fst).bind fun r4 =>
         bif decide ((↑((1 : Nat) + ByteArray.size r4) : Int) > Int.ofNat (9223372036854775807 : Nat)) then
          none
         else
          bif decide ((↑((r1.fst ++ (s44x0 ++ r2.fst) ++ (s44x0 ++ r3)).size + (s44x0 ++ r4).size) : Int) > Int.ofNat (9223372036854775807 : Nat)) then
           none
          else
           some (r1.fst ++ (s44x0 ++ r2.fst) ++ (s44x0 ++ r3) ++ (s44x0 ++ r4))
        else
         some (r1.fst ++ (s44x0 ++ r2.fst) ++ (s44x0 ++ r3))
     else
      bif r1.snd.snd.snd.fst then
       (f60 n d.snd.snd.fst).bind fun r5 =>
       bif decide ((↑((1 : Nat) + ByteArray.size r5) : Int) > Int.ofNat (9223372036854775807 : Nat)) then
        none
       else
        bif decide ((↑((r1.fst ++ (s44x0 ++ r2.fst)).size + (s44x0 ++ r5).size) : Int) > Int.ofNat (9223372036854775807 : Nat)) then
         none
        else
         some (r1.fst ++ (s44x0 ++ r2.fst) ++ (s44x0 ++ r5))
      else
       some (r1.fst ++ (s44x0 ++ r2.fst))
  else
   bif r1.snd.snd.fst then
    (f60 n d.snd.snd.snd).bind fun r6 =>
    bif decide ((↑((1 : Nat) + ByteArray.size r6) : Int) > Int.ofNat (9223372036854775807 : Nat)) then
     none
    else
     bif decide ((↑(ByteArray.size r1.fst + (s44x0 ++ r6).size) : Int) > Int.ofNat (9223372036854775807 : Nat)) then
      none
     else
      bif r1.snd.snd.snd.fst then
       (f60 n d.snd.snd.fst).bind fun r7 =>
       bif decide ((↑((1 : Nat) + ByteArray.size r7) : Int) > Int.ofNat (9223372036854775807 : Nat)) then
        none
       else
        bif decide ((↑((r1.fst ++ (s44x0 ++ r6)).size + (s44x0 ++ r7).size) : Int) > Int.ofNat (9223372036854775807 : Nat)) then
         none
        else
         some (r1.fst ++ (s44x0 ++ r6) ++ (s44x0 ++ r7))
      else
       some (r1.fst ++ (s44x0 ++ r6))
   else
    bif r1.snd.snd.snd.fst then
     (f60 n d.snd.snd.fst).bind fun r8 =>
     bif decide ((↑((1 : Nat) + ByteArray.size r8) : Int) > Int.ofNat (9223372036854775807 : Nat)) then
      none
     else
      bif decide ((↑(ByteArray.size r1.fst + (s44x0 ++ r8).size) : Int) > Int.ofNat (9223372036854775807 : Nat)) then
       none
      else
       some (r1.fst ++ (s44x0 ++ r8))
    else
     some r1.fst := by kernel_rfl
noncomputable def s25x0 : ByteArray := { data := #[10] }
/- convoy/convoyref21.Text -/
noncomputable def c25 : Cfg := ⟨25, Tryd.f25, [(.sl 94 (.agg (.pair (.int .i64) (.pair (.agg (.pair (.int .u16) .str)) (.pair (.int .i64) (.int .i64))))))], [.str, (.int .i64), (.int .i64)], 6, [], [(12, ⟨55, 6, [(0, (.val (.sl 94 (.agg (.pair (.int .i64) (.pair (.agg (.pair (.int .u16) .str)) (.pair (.int .i64) (.int .i64)))))))), (7, (.val .str)), (8, (.val (.int .i64)))], []⟩), (18, ⟨55, 6, [(0, (.val (.sl 94 (.agg (.pair (.int .i64) (.pair (.agg (.pair (.int .u16) .str)) (.pair (.int .i64) (.int .i64)))))))), (7, (.val .str)), (8, (.val (.int .i64))), (9, (.val (.int .i64)))], []⟩)]⟩
noncomputable def T25 (n : Nat) : Tab := ⟨[e10 n, e44 n], []⟩
noncomputable def e25 (n : Nat) : Entry := c25.entry Tryd.prog (T25 n) n
theorem ok25 {W0 : World} (n : Nat) : FnOK Tryd.prog W0 (e25 n) := c25.sound (.cons (ok10 n) (.cons (ok44 n) .nil)) n Tryd.func25 (by kernel_rfl) (by kernel_rfl)
noncomputable def f25 (n : Nat) (l : List (Int × ((Int × ByteArray) × (Int × Int)))) : Option (ByteArray × Int × Int) := c25.f Tryd.prog (T25 n) n l
noncomputable def f25_12 (n m : Nat) (l : List (Int × ((Int × ByteArray) × (Int × Int)))) (s : ByteArray) (i : Int) : Option (ByteArray × Int × Int) := c25.LL Tryd.prog (T25 n) m 12 (l, s, i) ()
noncomputable def f25_18 (n m : Nat) (l : List (Int × ((Int × ByteArray) × (Int × Int)))) (s : ByteArray) (i : Int) (k : Int) : Option (ByteArray × Int × Int) := c25.LL Tryd.prog (T25 n) m 18 (l, s, i, k) ()
theorem f25_12_zero (n : Nat) (l : List (Int × ((Int × ByteArray) × (Int × Int)))) (s : ByteArray) (i : Int) : f25_12 n 0 l s i = none := rfl
theorem f25_12_eq (n m : Nat) (l : List (Int × ((Int × ByteArray) × (Int × Int)))) (s : ByteArray) (i : Int) : f25_12 n (m + 1) l s i =
  bif decide (i < ↑l.length) then
   f25_18 n m l s i (0 : Int)
  else
   some (s, (0 : Int), (0 : Int)) := by kernel_rfl
theorem f25_18_zero (n : Nat) (l : List (Int × ((Int × ByteArray) × (Int × Int)))) (s : ByteArray) (i : Int) (k : Int) : f25_18 n 0 l s i k = none := rfl
theorem f25_18_eq (n m : Nat) (l : List (Int × ((Int × ByteArray) × (Int × Int)))) (s : ByteArray) (i : Int) (k : Int) : f25_18 n (m + 1) l s i k =
  bif decide ((0 : Int) ≤ i ∧ i < ↑l.length) then
   bif decide (k < ↑(ByteArray.size (l.getD i.toNat ((0 : Int), ((0 : Int), ByteArray.empty), (0 : Int), (0 : Int))).snd.fst.snd)) then
    bif decide ((0 : Int) ≤ i ∧ i < ↑l.length) then
     bif decide ((0 : Int) ≤ k ∧ k < ↑(ByteArray.size (l.getD i.toNat ((0 : Int), ((0 : Int), ByteArray.empty), (0 : Int), (0 : Int))).snd.fst.snd)) then
      bif Go.Rf.byteAt (l.getD i.toNat ((0 : Int), ((0 : Int), ByteArray.empty), (0 : Int), (0 : Int))).snd.fst.snd k == (10 : Int) then
       some (ByteArray.empty, i, (212 : Int))
      else
       f25_18 n m l s i (Go.IntKind.i64.wrap (k + (1 : Int)))
     else
      none
    else
     none
   else
    bif decide ((0 : Int) ≤ i ∧ i < ↑l.length) then
     (f44 n (l.getD i.toNat ((0 : Int), ((0 : Int), ByteArray.empty), (0 : Int), (0 : Int)))).bind fun r1 =>
     bif decide ((↑(ByteArray.size r1 + (1 : Nat)) : Int) > Int.ofNat (9223372036854775807 : Nat)) then
      none
     else
      bif decide ((↑(s.size + (r1 ++ s25x0).size) : Int) > Int.ofNat (9223372036854775807 : Nat)) then
       none
      else
       f25_12 n m l (s ++ (r1 ++ s25x0)) (Go.IntKind.i64.wrap (i + (1 : Int)))
    else
     none
  else
   none := by kernel_rfl
theorem f25_eq (n : Nat) (l : List (Int × ((Int × ByteArray) × (Int × Int)))) : f25 n l =
  (f10 n l).bind fun r1 =>
  bif r1.snd != (0 : Int) then
   some (ByteArray.empty, r1.fst, r1.snd)
  else
   f25_12 n n l ByteArray.empty (0 : Int) := by kernel_rfl
/- convoy/convoyref21.number -/
noncomputable def c65 : Cfg := ⟨65, Tryd.f65, [.str], [(.int .i64), .bool], 6, [], [(6, ⟨41, 6, [(0, (.val .str)), (4, (.val (.int .i64))), (5, (.val (.int .i64)))], []⟩)]⟩
noncomputable def T65 (n : Nat) : Tab := ⟨[e60 n], []⟩
noncomputable def e65 (n : Nat) : Entry := c65.entry Tryd.prog (T65 n) n
theorem ok65 {W0 : World} (n : Nat) : FnOK Tryd.prog W0 (e65 n) := c65.sound (.cons (ok60 n) .nil) n Tryd.func65 (by kernel_rfl) (by kernel_rfl)
noncomputable def f65 (n : Nat) (s : ByteArray) : Option (Int × Bool) := c65.f Tryd.prog (T65 n) n s
noncomputable def f65_6 (n m : Nat) (s : ByteArray) (x4 : Int) (i : Int) : Option (Int × Bool) := c65.LL Tryd.prog (T65 n) m 6 (s, x4, i) ()
theorem f65_6_zero (n : Nat) (s : ByteArray) (x4 : Int) (i : Int) : f65_6 n 0 s x4 i = none := rfl
theorem f65_6_eq (n m : Nat) (s : ByteArray) (x4 : Int) (i : Int) : f65_6 n (m + 1) s x4 i =
  bif decide (i < ↑s.size) then
   bif decide ((0 : Int) ≤ i ∧ i < ↑s.size) then
    bif decide (Go.Rf.byteAt s i < (48 : Int)) then
     some ((0 : Int), false)
    else
     bif decide ((0 : Int) ≤ i ∧ i < ↑s.size) then
      bif decide (Go.Rf.byteAt s i > (57 : Int)) then
       some ((0 : Int), false)
      else
       bif decide (x4 > (4611686018427387904 : Int)) then
        some ((0 : Int), false)
       else
        bif decide ((0 : Int) ≤ i ∧ i < ↑s.size) then
         bif decide (Go.IntKind.i64.wrap (Go.IntKind.i64.wrap (x4 * (10 : Int)) + Go.IntKind.i64.wrap (Go.IntKind.u8.wrap (Go.Rf.byteAt s i - (48 : Int)))) < (0 : Int)) then
          some ((0 : Int), false)
         else
          f65_6 n m s (Go.IntKind.i64.wrap (Go.IntKind.i64.wrap (x4 * (10 : Int)) + Go.IntKind.i64.wrap (Go.IntKind.u8.wrap (Go.Rf.byteAt s i - (48 : Int))))) (Go.IntKind.i64.wrap (i + (1 : Int)))
        else
         none
     else
      none
   else
    none
  else
   (f60 n x4).bind fun r1 =>
   some (x4, ByteArray.toList r1 == s.toList) := by kernel_rfl
theorem f65_eq (n : Nat) (s : ByteArray) : f65 n s =
  f65_6 n n s (0 : Int) (0 : Int) := by kernel_rfl
/- convoy/convoyref21.last -/
noncomputable def c66 : Cfg := ⟨66, Tryd.f66, [.str], [.str, .str], 5, [], [(4, ⟨28, 5, [(0, (.val .str)), (2, (.val .str)), (3, (.val .str)), (4, (.val (.int .i64)))], []⟩)]⟩
noncomputable def T66 (_ : Nat) : Tab := ⟨[], []⟩
noncomputable def e66 (n : Nat) : Entry := c66.entry Tryd.prog (T66 n) n
theorem ok66 {W0 : World} (n : Nat) : FnOK Tryd.prog W0 (e66 n) := c66.sound .nil n Tryd.func66 (by kernel_rfl) (by kernel_rfl)
noncomputable def f66 (n : Nat) (s : ByteArray) : Option (ByteArray × ByteArray) := c66.f Tryd.prog (T66 n) n s
noncomputable def f66_4 (n m : Nat) (s : ByteArray) (x2 : ByteArray) (x3 : ByteArray) (x4 : Int) : Option (ByteArray × ByteArray) := c66.LL Tryd.prog (T66 n) m 4 (s, x2, x3, x4) ()
theorem f66_4_zero (n : Nat) (s : ByteArray) (x2 : ByteArray) (x3 : ByteArray) (x4 : Int) : f66_4 n 0 s x2 x3 x4 = none := rfl
theorem f66_4_eq (n m : Nat) (s : ByteArray) (x2 : ByteArray) (x3 : ByteArray) (x4 : Int) : f66_4 n (m + 1) s x2 x3 x4 =
  bif decide (x4 > (0 : Int)) then
   bif decide ((0 : Int) ≤ Go.IntKind.i64.wrap (x4 - (1 : Int)) ∧ Go.IntKind.i64.wrap (x4 - (1 : Int)) < ↑s.size) then
    bif Go.Rf.byteAt s (Go.IntKind.i64.wrap (x4 - (1 : Int))) != (32 : Int) then
     f66_4 n m s x2 x3 (Go.IntKind.i64.wrap (x4 - (1 : Int)))
    else
     bif x4 == (0 : Int) then
      some (ByteArray.empty, s)
     else
      bif decide ((0 : Int) ≤ (0 : Int) ∧ (0 : Int) ≤ Go.IntKind.i64.wrap (x4 - (1 : Int)) ∧ Go.IntKind.i64.wrap (x4 - (1 : Int)) ≤ ↑s.size) then
       bif decide ((0 : Int) ≤ x4 ∧ x4 ≤ ↑s.size ∧ (↑s.size : Int) ≤ ↑s.size) then
        some (s.extract (0 : Nat) (Go.IntKind.i64.wrap (x4 - (1 : Int))).toNat, s.extract x4.toNat (↑s.size : Int).toNat)
       else
        none
      else
       none
   else
    none
  else
   bif x4 == (0 : Int) then
    some (ByteArray.empty, s)
   else
    bif decide ((0 : Int) ≤ (0 : Int) ∧ (0 : Int) ≤ Go.IntKind.i64.wrap (x4 - (1 : Int)) ∧ Go.IntKind.i64.wrap (x4 - (1 : Int)) ≤ ↑s.size) then
     bif decide ((0 : Int) ≤ x4 ∧ x4 ≤ ↑s.size ∧ (↑s.size : Int) ≤ ↑s.size) then
      some (s.extract (0 : Nat) (Go.IntKind.i64.wrap (x4 - (1 : Int))).toNat, s.extract x4.toNat (↑s.size : Int).toNat)
     else
      none
    else
     none := by kernel_rfl
theorem f66_eq (n : Nat) (s : ByteArray) : f66 n s =
  f66_4 n n s ByteArray.empty ByteArray.empty ↑s.size := by kernel_rfl
/- convoy/convoyref02.Parse -/
noncomputable def c67 : Cfg := ⟨67, Tryd.f67, [.str], [(.agg (.pair (.int .u16) .str)), (.int .i64)], 7, [], [(4, ⟨80, 7, [(0, (.val .str)), (2, (.ptr 1002 [])), (4, (.val (.int .i64))), (5, (.val (.int .i64)))], [(1002, .box (.val (.agg (.pair (.int .u16) .str))))]⟩)]⟩
noncomputable def T67 (_ : Nat) : Tab := ⟨[], []⟩
noncomputable def e67 (n : Nat) : Entry := c67.entry Tryd.prog (T67 n) n
theorem ok67 {W0 : World} (n : Nat) : FnOK Tryd.prog W0 (e67 n) := c67.sound .nil n Tryd.func67 (by kernel_rfl) (by kernel_rfl)
noncomputable def f67 (n : Nat) (s : ByteArray) : Option ((Int × ByteArray) × Int) := c67.f Tryd.prog (T67 n) n s
noncomputable def f67_4 (n m : Nat) (s : ByteArray) (x4 : Int) (i : Int) (b1002 : (Int × ByteArray)) : Option ((Int × ByteArray) × Int) := c67.LL Tryd.prog (T67 n) m 4 (s, (), x4, i) (b1002, ())
theorem f67_4_zero (n : Nat) (s : ByteArray) (x4 : Int) (i : Int) (b1002 : (Int × ByteArray)) : f67_4 n 0 s x4 i b1002 = none := rfl
theorem f67_4_eq (n m : Nat) (s : ByteArray) (x4 : Int) (i : Int) (b1002 : (Int × ByteArray)) : f67_4 n (m + 1) s x4 i b1002 =
  bif decide (i < ↑s.size) then
   bif decide ((0 : Int) ≤ i ∧ i < ↑s.size) then
    bif Go.Rf.byteAt s i != (58 : Int) then
     bif decide ((0 : Int) ≤ i ∧ i < ↑s.size) then
      bif decide (Go.Rf.byteAt s i < (48 : Int)) then
       some (((0 : Int), ByteArray.empty), i)
      else
       bif decide (Go.Rf.byteAt s i > (57 : Int)) then
        some (((0 : Int), ByteArray.empty), i)
       else
        bif decide (i > (0 : Int)) then
         bif x4 == (0 : Int) then
          some (((0 : Int), ByteArray.empty), i)
         else
          bif decide (Go.IntKind.i64.wrap (Go.IntKind.i64.wrap ((10 : Int) * x4) + Go.IntKind.i64.wrap (Go.IntKind.u8.wrap (Go.Rf.byteAt s i - (48 : Int)))) > (65535 : Int)) then
           some (((0 : Int), ByteArray.empty), i)
          else
           f67_4 n m s (Go.IntKind.i64.wrap (Go.IntKind.i64.wrap ((10 : Int) * x4) + Go.IntKind.i64.wrap (Go.IntKind.u8.wrap (Go.Rf.byteAt s i - (48 : Int))))) (Go.IntKind.i64.wrap (i + (1 : Int))) b1002
        else
         bif decide (Go.IntKind.i64.wrap (Go.IntKind.i64.wrap ((10 : Int) * x4) + Go.IntKind.i64.wrap (Go.IntKind.u8.wrap (Go.Rf.byteAt s i - (48 : Int)))) > (65535 : Int)) then
          some (((0 : Int), ByteArray.empty), i)
         else
          f67_4 n m s (Go.IntKind.i64.wrap (Go.IntKind.i64.wrap ((10 : Int) * x4) + Go.IntKind.i64.wrap (Go.IntKind.u8.wrap (Go.Rf.byteAt s i - (48 : Int))))) (Go.IntKind.i64.wrap (i + (1 : Int))) b1002
     else
      none
    else
     bif i == ↑s.size then
      some (((0 : Int), ByteArray.empty), i)
     else
      bif i == (0 : Int) then
       some (((0 : Int), ByteArray.empty), i)
      else
       bif decide (Go.IntKind.i64.wrap (Go.IntKind.i64.wrap (↑s.size - i) - (1 : Int)) > (64 : Int)) then
        some (((0 : Int), ByteArray.empty), Go.IntKind.i64.wrap (Go.IntKind.i64.wrap (i + (1 : Int)) + (64 : Int)))
       else
        bif decide ((0 : Int) ≤ Go.IntKind.i64.wrap (i + (1 : Int)) ∧ Go.IntKind.i64.wrap (i + (1 : Int)) ≤ ↑s.size ∧ (↑s.size : Int) ≤ ↑s.size) then
         some ((Go.IntKind.u16.wrap x4, s.extract (Go.IntKind.i64.wrap (i + (1 : Int))).toNat (↑s.size : Int).toNat), (-1 : Int))
        else
         none
   else
    none
  else
   bif i == ↑s.size then
    some (((0 : Int), ByteArray.empty), i)
   else
    bif i == (0 : Int) then
     some (((0 : Int), ByteArray.empty), i)
    else
     bif decide (Go.IntKind.i64.wrap (Go.IntKind.i64.wrap (↑s.size - i) - (1 : Int)) > (64 : Int)) then
      some (((0 : Int), ByteArray.empty), Go.IntKind.i64.wrap (Go.IntKind.i64.wrap (i + (1 : Int)) + (64 : Int)))
     else
      bif decide ((0 : Int) ≤ Go.IntKind.i64.wrap (i + (1 : Int)) ∧ Go.IntKind.i64.wrap (i + (1 : Int)) ≤ ↑s.size ∧ (↑s.size : Int) ≤ ↑s.size) then
       some ((Go.IntKind.u16.wrap x4, s.extract (Go.IntKind.i64.wrap (i + (1 : Int))).toNat (↑s.size : Int).toNat), (-1 : Int))
      else
       none := by kernel_rfl
theorem f67_eq (n : Nat) (s : ByteArray) : f67 n s =
  f67_4 n n s (0 : Int) (0 : Int) (((0 : Int), ByteArray.empty)) := by kernel_rfl
/- convoy/convoyref21.line -/
noncomputable def c47 : Cfg := ⟨47, Tryd.f47, [.str], [(.agg (.pair (.int .i64) (.pair (.agg (.pair (.int .u16) .str)) (.pair (.int .i64) (.int .i64))))), .bool], 7, [7, 12, 16, 19], [(4, ⟨100, 7, [(0, (.val .str)), (2, (.ptr 1002 [])), (4, (.val (.int .i64)))], [(1002, .box (.val (.agg (.pair (.int .i64) (.pair (.agg (.pair (.int .u16) .str)) (.pair (.int .i64) (.int .i64)))))))]⟩), (15, ⟨100, 7, [(0, (.val .str)), (2, (.ptr 1002 [])), (4, (.val (.int .i64))), (5, (.ptr 1005 [])), (6, (.val (.int .i64))), (25, (.val .str)), (26, (.val (.int .i64))), (27, (.val (.int .i64))), (28, (.val .bool)), (29, (.val .bool)), (30, (.val .str)), (31, (.val (.int .i64))), (32, (.val .str)), (33, (.ptr 1005 [0])), (34, (.val .str)), (35, (.val .bool)), (36, (.val .bool)), (37, (.val .bool)), (38, (.val .str)), (39, (.val (.int .i64))), (40, (.val (.int .u8))), (41, (.val .bool)), (42, (.val .bool))], [(1002, .box (.val (.agg (.pair (.int .i64) (.pair (.agg (.pair (.int .u16) .str)) (.pair (.int .i64) (.int .i64))))))), (1005, .box (.val (.agg (.pair .str (.pair .bool (.pair .bool (.pair .bool (.pair (.int .i64) (.int .i64)))))))))]⟩), (25, ⟨100, 7, [(0, (.val .str)), (2, (.ptr 1002 [])), (4, (.val (.int .i64))), (5, (.ptr 1005 [])), (7, (.ptr 1007 [])), (8, (.val .str)), (9, (.val .bool)), (25, (.val .str)), (26, (.val (.int .i64))), (27, (.val (.int .i64))), (28, (.val .bool)), (29, (.val .bool)), (30, (.val .str)), (31, (.val (.int .i64))), (32, (.val .str)), (33, (.ptr 1005 [0])), (34, (.val .str)), (35, (.val .bool)), (36, (.val .bool)), (37, (.val .bool)), (38, (.val .str)), (39, (.val (.int .i64))), (40, (.val (.int .u8))), (41, (.val .bool)), (42, (.val .bool))], [(1002, .box (.val (.agg (.pair (.int .i64) (.pair (.agg (.pair (.int .u16) .str)) (.pair (.int .i64) (.int .i64))))))), (1005, .box (.val (.agg (.pair .str (.pair .bool (.pair .bool (.pair .bool (.pair (.int .i64) (.int .i64))))))))), (1007, .box (.val (.agg (.pair (.int .i64) (.pair (.agg (.pair (.int .u16) .str)) (.pair (.int .i64) (.int .i64)))))))]⟩), (33, ⟨100, 7, [(0, (.val .str)), (2, (.ptr 1002 [])), (4, (.val (.int .i64))), (5, (.ptr 1005 [])), (7, (.ptr 1007 [])), (8, (.val .str)), (9, (.val .bool)), (25, (.val .str)), (26, (.val (.int .i64))), (27, (.val (.int .i64))), (28, (.val .bool)), (29, (.val .bool)), (30, (.val .str)), (31, (.val (.int .i64))), (32, (.val .str)), (33, (.ptr 1005 [0])), (34, (.val .str)), (35, (.val .bool)), (36, (.val .bool)), (37, (.val .bool)), (38, (.val .str)), (39, (.val (.int .i64))), (40, (.val (.int .u8))), (41, (.val .bool)), (42, (.val .bool))], [(1002, .box (.val (.agg (.pair (.int .i64) (.pair (.agg (.pair (.int .u16) .str)) (.pair (.int .i64) (.int .i64))))))), (1005, .box (.val (.agg (.pair .str (.pair .bool (.pair .bool (.pair .bool (.pair (.int .i64) (.int .i64))))))))), (1007, .box (.val (.agg (.pair (.int .i64) (.pair (.agg (.pair (.int .u16) .str)) (.pair (.int .i64) (.int .i64)))))))]⟩), (39, ⟨100, 7, [(0, (.val .str)), (2, (.ptr 1002 [])), (4, (.val (.int .i64))), (7, (.ptr 1007 [])), (9, (.val .bool)), (25, (.val .str)), (26, (.val (.int .i64))), (27, (.val (.int .i64))), (28, (.val .bool)), (29, (.val .bool)), (30, (.val .str)), (31, (.val (.int .i64))), (32, (.val .str)), (33, (.ptr 1005 [0])), (34, (.val .str)), (35, (.val .bool)), (36, (.val .bool)), (37, (.val .bool)), (38, (.val .str)), (39, (.val (.int .i64))), (40, (.val (.int .u8))), (41, (.val .bool)), (42, (.val .bool))], [(1002, .box (.val (.agg (.pair (.int .i64) (.pair (.agg (.pair (.int .u16) .str)) (.pair (.int .i64) (.int .i64))))))), (1005, .box (.val (.agg (.pair .str (.pair .bool (.pair .bool (.pair .bool (.pair (.int .i64) (.int .i64))))))))), (1007, .box (.val (.agg (.pair (.int .i64) (.pair (.agg (.pair (.int .u16) .str)) (.pair (.int .i64) (.int .i64)))))))]⟩)]⟩
noncomputable def T47 (n : Nat) : Tab := ⟨[e48 n, e65 n, e66 n, e67 n, e32 n, e44 n], []⟩
noncomputable def e47 (n : Nat) : Entry := c47.entry Tryd.prog (T47 n) n
theorem ok47 {W0 : World} (n : Nat) : FnOK Tryd.prog W0 (e47 n) := c47.sound (.cons (ok48 n) (.cons (ok65 n) (.cons (ok66 n) (.cons (ok67 n) (.cons (ok32 n) (.cons (ok44 n) .nil)))))) n Tryd.func47 (by kernel_rfl) (by kernel_rfl)
noncomputable def f47 (n : Nat) (s : ByteArray) : Option ((Int × ((Int × ByteArray) × (Int × Int))) × Bool) := c47.f Tryd.prog (T47 n) n s
noncomputable def f47_4 (n m : Nat) (s : ByteArray) (op : Int) (b1002 : (Int × ((Int × ByteArray) × (Int × Int)))) : Option ((Int × ((Int × ByteArray) × (Int × Int))) × Bool) := c47.LL Tryd.prog (T47 n) m 4 (s, (), op) (b1002, ())
noncomputable def f47_15 (n m : Nat) (s : ByteArray) (op : Int) (x6 : Int) (x25 : ByteArray) (x26 : Int) (x27 : Int) (x28 : Bool) (x29 : Bool) (x30 : ByteArray) (x31 : Int) (x32 : ByteArray) (x34 : ByteArray) (x35 : Bool) (x36 : Bool) (x37 : Bool) (x38 : ByteArray) (x39 : Int) (x40 : Int) (x41 : Bool) (x42 : Bool) (b1002 : (Int × ((Int × ByteArray) × (Int × Int)))) (b1005 : (ByteArray × (Bool × (Bool × (Bool × (Int × Int)))))) : Option ((Int × ((Int × ByteArray) × (Int × Int))) × Bool) := c47.LL Tryd.prog (T47 n) m 15 (s, (), op, (), x6, x25, x26, x27, x28, x29, x30, x31, x32, (), x34, x35, x36, x37, x38, x39, x40, x41, x42) (b1002, b1005, ())
noncomputable def f47_25 (n m : Nat) (s : ByteArray) (op : Int) (rest : ByteArray) (ok : Bool) (x25 : ByteArray) (x26 : Int) (x27 : Int) (x28 : Bool) (x29 : Bool) (x30 : ByteArray) (x31 : Int) (x32 : ByteArray) (x34 : ByteArray) (x35 : Bool) (x36 : Bool) (x37 : Bool) (x38 : ByteArray) (x39 : Int) (x40 : Int) (x41 : Bool) (x42 : Bool) (b1002 : (Int × ((Int × ByteArray) × (Int × Int)))) (b1005 : (ByteArray × (Bool × (Bool × (Bool × (Int × Int)))))) (b1007 : (Int × ((Int × ByteArray) × (Int × Int)))) : Option ((Int × ((Int × ByteArray) × (Int × Int))) × Bool) := c47.LL Tryd.prog (T47 n) m 25 (s, (), op, (), (), rest, ok, x25, x26, x27, x28, x29, x30, x31, x32, (), x34, x35, x36, x37, x38, x39, x40, x41, x42) (b1002, b1005, b1007, ())
noncomputable def f47_33 (n m : Nat) (s : ByteArray) (op : Int) (rest : ByteArray) (ok : Bool) (x25 : ByteArray) (x26 : Int) (x27 : Int) (x28 : Bool) (x29 : Bool) (x30 : ByteArray) (x31 : Int) (x32 : ByteArray) (x34 : ByteArray) (x35 : Bool) (x36 : Bool) (x37 : Bool) (x38 : ByteArray) (x39 : Int) (x40 : Int) (x41 : Bool) (x42 : Bool) (b1002 : (Int × ((Int × ByteArray) × (Int × Int)))) (b1005 : (ByteArray × (Bool × (Bool × (Bool × (Int × Int)))))) (b1007 : (Int × ((Int × ByteArray) × (Int × Int)))) : Option ((Int × ((Int × ByteArray) × (Int × Int))) × Bool) := c47.LL Tryd.prog (T47 n) m 33 (s, (), op, (), (), rest, ok, x25, x26, x27, x28, x29, x30, x31, x32, (), x34, x35, x36, x37, x38, x39, x40, x41, x42) (b1002, b1005, b1007, ())
noncomputable def f47_39 (n m : Nat) (s : ByteArray) (op : Int) (ok : Bool) (x25 : ByteArray) (x26 : Int) (x27 : Int) (x28 : Bool) (x29 : Bool) (x30 : ByteArray) (x31 : Int) (x32 : ByteArray) (x34 : ByteArray) (x35 : Bool) (x36 : Bool) (x37 : Bool) (x38 : ByteArray) (x39 : Int) (x40 : Int) (x41 : Bool) (x42 : Bool) (b1002 : (Int × ((Int × ByteArray) × (Int × Int)))) (b1005 : (ByteArray × (Bool × (Bool × (Bool × (Int × Int)))))) (b1007 : (Int × ((Int × ByteArray) × (Int × Int)))) : Option ((Int × ((Int × ByteArray) × (Int × Int))) × Bool) := c47.LL Tryd.prog (T47 n) m 39 (s, (), op, (), ok, x25, x26, x27, x28, x29, x30, x31, x32, (), x34, x35, x36, x37, x38, x39, x40, x41, x42) (b1002, b1005, b1007, ())
theorem f47_4_zero (n : Nat) (s : ByteArray) (op : Int) (b1002 : (Int × ((Int × ByteArray) × (Int × Int)))) : f47_4 n 0 s op b1002 = none := rfl
theorem f47_4_eq (n m : Nat) (s : ByteArray) (op : Int) (b1002 : (Int × ((Int × ByteArray) × (Int × Int)))) : f47_4 n (m + 1) s op b1002 =
  bif decide (op ≤ (9 : Int)) then
   (f48 n op).bind fun r1 =>
   bif decide ((↑s.size : Int) ≤ ↑(ByteArray.size r1.fst)) then
    f47_4 n m s (Go.IntKind.i64.wrap (op + (1 : Int))) b1002
   else
    bif decide ((0 : Int) ≤ (0 : Int) ∧ (0 : Int) ≤ ↑(ByteArray.size r1.fst) ∧ (↑(ByteArray.size r1.fst) : Int) ≤ ↑s.size) then
     bif !(s.extract (0 : Nat) (↑(ByteArray.size r1.fst) : Int).toNat).toList == ByteArray.toList r1.fst then
      f47_4 n m s (Go.IntKind.i64.wrap (op + (1 : Int))) b1002
     else
      bif decide ((0 : Int) ≤ ↑(ByteArray.size r1.fst) ∧ (↑(ByteArray.size r1.fst) : Int) < ↑s.size) then
       bif Go.Rf.byteAt s (↑(ByteArray.size r1.fst) : Int) != (32 : Int) then
        f47_4 n m s (Go.IntKind.i64.wrap (op + (1 : Int))) b1002
       else
        f47_15 n m s op (↑(ByteArray.size r1.fst)) s ↑s.size (↑(ByteArray.size r1.fst)) (decide ((↑s.size : Int) ≤ ↑(ByteArray.size r1.fst))) false s (↑(ByteArray.size r1.fst)) (s.extract (0 : Nat) (↑(ByteArray.size r1.fst) : Int).toNat) r1.fst (!(s.extract (0 : Nat) (↑(ByteArray.size r1.fst) : Int).toNat).toList == ByteArray.toList r1.fst) (!(s.extract (0 : Nat) (↑(ByteArray.size r1.fst) : Int).toNat).toList == ByteArray.toList r1.fst) false s (↑(ByteArray.size r1.fst)) (Go.Rf.byteAt s ↑(ByteArray.size r1.fst)) (Go.Rf.byteAt s (↑(ByteArray.size r1.fst) : Int) != (32 : Int)) (Go.Rf.byteAt s (↑(ByteArray.size r1.fst) : Int) != (32 : Int)) b1002 r1
      else
       none
    else
     none
  else
   some (((0 : Int), ((0 : Int), ByteArray.empty), (0 : Int), (0 : Int)), false) := by kernel_rfl
theorem f47_15_zero (n : Nat) (s : ByteArray) (op : Int) (x6 : Int) (x25 : ByteArray) (x26 : Int) (x27 : Int) (x28 : Bool) (x29 : Bool) (x30 : ByteArray) (x31 : Int) (x32 : ByteArray) (x34 : ByteArray) (x35 : Bool) (x36 : Bool) (x37 : Bool) (x38 : ByteArray) (x39 : Int) (x40 : Int) (x41 : Bool) (x42 : Bool) (b1002 : (Int × ((Int × ByteArray) × (Int × Int)))) (b1005 : (ByteArray × (Bool × (Bool × (Bool × (Int × Int)))))) : f47_15 n 0 s op x6 x25 x26 x27 x28 x29 x30 x31 x32 x34 x35 x36 x37 x38 x39 x40 x41 x42 b1002 b1005 = none := rfl
theorem f47_15_eq (n m : Nat) (s : ByteArray) (op : Int) (x6 : Int) (x25 : ByteArray) (x26 : Int) (x27 : Int) (x28 : Bool) (x29 : Bool) (x30 : ByteArray) (x31 : Int) (x32 : ByteArray) (x34 : ByteArray) (x35 : Bool) (x36 : Bool) (x37 : Bool) (x38 : ByteArray) (x39 : Int) (x40 : Int) (x41 : Bool) (x42 : Bool) (b1002 : (Int × ((Int × ByteArray) × (Int × Int)))) (b1005 : (ByteArray × (Bool × (Bool × (Bool × (Int × Int)))))) : f47_15 n (m + 1) s op x6 x25 x26 x27 x28 x29 x30 x31 x32 x34 x35 x36 x37 x38 x39 x40 x41 x42 b1002 b1005 =
  bif decide ((0 : Int) ≤ Go.IntKind.i64.wrap (x6 + (1 : Int)) ∧ Go.IntKind.i64.wrap (x6 + (1 : Int)) ≤ ↑s.size ∧ (↑s.size : Int) ≤ ↑s.size) then
   bif b1005.snd.snd.snd.fst then
    (f65 n (s.extract (Go.IntKind.i64.wrap (x6 + (1 : Int))).toNat (↑s.size : Int).toNat)).bind fun r1 =>
    f47_25 n m s op ByteArray.empty r1.snd x25 x26 x27 x28 x29 x30 x31 x32 x34 x35 x36 x37 x38 x39 x40 x41 x42 b1002 b1005 ((op, ((0 : Int), ByteArray.empty), r1.fst, (0 : Int)))
   else
    f47_25 n m s op (s.extract (Go.IntKind.i64.wrap (x6 + (1 : Int))).toNat (↑s.size : Int).toNat) true x25 x26 x27 x28 x29 x30 x31 x32 x34 x35 x36 x37 x38 x39 x40 x41 x42 b1002 b1005 ((op, ((0 : Int), ByteArray.empty), (0 : Int), (0 : Int)))
  else
   none := by kernel_rfl
theorem f47_25_zero (n : Nat) (s : ByteArray) (op : Int) (rest : ByteArray) (ok : Bool) (x25 : ByteArray) (x26 : Int) (x27 : Int) (x28 : Bool) (x29 : Bool) (x30 : ByteArray) (x31 : Int) (x32 : ByteArray) (x34 : ByteArray) (x35 : Bool) (x36 : Bool) (x37 : Bool) (x38 : ByteArray) (x39 : Int) (x40 : Int) (x41 : Bool) (x42 : Bool) (b1002 : (Int × ((Int × ByteArray) × (Int × Int)))) (b1005 : (ByteArray × (Bool × (Bool × (Bool × (Int × Int)))))) (b1007 : (Int × ((Int × ByteArray) × (Int × Int)))) : f47_25 n 0 s op rest ok x25 x26 x27 x28 x29 x30 x31 x32 x34 x35 x36 x37 x38 x39 x40 x41 x42 b1002 b1005 b1007 = none := rfl
theorem f47_25_eq (n m : Nat) (s : ByteArray) (op : Int) (rest : ByteArray) (ok : Bool) (x25 : ByteArray) (x26 : Int) (x27 : Int) (x28 : Bool) (x29 : Bool) (x30 : ByteArray) (x31 : Int) (x32 : ByteArray) (x34 : ByteArray) (x35 : Bool) (x36 : Bool) (x37 : Bool) (x38 : ByteArray) (x39 : Int) (x40 : Int) (x41 : Bool) (x42 : Bool) (b1002 : (Int × ((Int × ByteArray) × (Int × Int)))) (b1005 : (ByteArray × (Bool × (Bool × (Bool × (Int × Int)))))) (b1007 : (Int × ((Int × ByteArray) × (Int × Int)))) : f47_25 n (m + 1) s op rest ok x25 x26 x27 x28 x29 x30 x31 x32 x34 x35 x36 x37 x38 x39 x40 x41 x42 b1002 b1005 b1007 =
  bif b1005.snd.snd.fst then
   (f66 n rest).bind fun r1 =>
   (f65 n r1.snd).bind fun r2 =>
   f47_33 n m s op r1.fst r2.snd x25 x26 x27 x28 x29 x30 x31 x32 x34 x35 x36 x37 x38 x39 x40 x41 x42 b1002 b1005 (b1007.fst, b1007.snd.fst, b1007.snd.snd.fst, r2.fst)
  else
   f47_33 n m s op rest ok x25 x26 x27 x28 x29 x30 x31 x32 x34 x35 x36 x37 x38 x39 x40 x41 x42 b1002 b1005 b1007 := by kernel_rfl
theorem f47_33_zero (n : Nat) (s : ByteArray) (op : Int) (rest : ByteArray) (ok : Bool) (x25 : ByteArray) (x26 : Int) (x27 : Int) (x28 : Bool) (x29 : Bool) (x30 : ByteArray) (x31 : Int) (x32 : ByteArray) (x34 : ByteArray) (x35 : Bool) (x36 : Bool) (x37 : Bool) (x38 : ByteArray) (x39 : Int) (x40 : Int) (x41 : Bool) (x42 : Bool) (b1002 : (Int × ((Int × ByteArray) × (Int × Int)))) (b1005 : (ByteArray × (Bool × (Bool × (Bool × (Int × Int)))))) (b1007 : (Int × ((Int × ByteArray) × (Int × Int)))) : f47_33 n 0 s op rest ok x25 x26 x27 x28 x29 x30 x31 x32 x34 x35 x36 x37 x38 x39 x40 x41 x42 b1002 b1005 b1007 = none := rfl
theorem f47_33_eq (n m : Nat) (s : ByteArray) (op : Int) (rest : ByteArray) (ok : Bool) (x25 : ByteArray) (x26 : Int) (x27 : Int) (x28 : Bool) (x29 : Bool) (x30 : ByteArray) (x31 : Int) (x32 : ByteArray) (x34 : ByteArray) (x35 : Bool) (x36 : Bool) (x37 : Bool) (x38 : ByteArray) (x39 : Int) (x40 : Int) (x41 : Bool) (x42 : Bool) (b1002 : (Int × ((Int × ByteArray) × (Int × Int)))) (b1005 : (ByteArray × (Bool × (Bool × (Bool × (Int × Int)))))) (b1007 : (Int × ((Int × ByteArray) × (Int × Int)))) : f47_33 n (m + 1) s op rest ok x25 x26 x27 x28 x29 x30 x31 x32 x34 x35 x36 x37 x38 x39 x40 x41 x42 b1002 b1005 b1007 =
  bif b1005.snd.fst then
   (f67 n rest).bind fun r1 =>
   bif ok then
    f47_39 n m s op (decide (r1.snd < (0 : Int))) x25 x26 x27 x28 x29 x30 x31 x32 x34 x35 x36 x37 x38 x39 x40 x41 x42 b1002 b1005 (b1007.fst, r1.fst, b1007.snd.snd)
   else
    f47_39 n m s op false x25 x26 x27 x28 x29 x30 x31 x32 x34 x35 x36 x37 x38 x39 x40 x41 x42 b1002 b1005 (b1007.fst, r1.fst, b1007.snd.snd)
  else
   f47_39 n m s op ok x25 x26 x27 x28 x29 x30 x31 x32 x34 x35 x36 x37 x38 x39 x40 x41 x42 b1002 b1005 b1007 := by kernel_rfl
theorem f47_39_zero (n : Nat) (s : ByteArray) (op : Int) (ok : Bool) (x25 : ByteArray) (x26 : Int) (x27 : Int) (x28 : Bool) (x29 : Bool) (x30 : ByteArray) (x31 : Int) (x32 : ByteArray) (x34 : ByteArray) (x35 : Bool) (x36 : Bool) (x37 : Bool) (x38 : ByteArray) (x39 : Int) (x40 : Int) (x41 : Bool) (x42 : Bool) (b1002 : (Int × ((Int × ByteArray) × (Int × Int)))) (b1005 : (ByteArray × (Bool × (Bool × (Bool × (Int × Int)))))) (b1007 : (Int × ((Int × ByteArray) × (Int × Int)))) : f47_39 n 0 s op ok x25 x26 x27 x28 x29 x30 x31 x32 x34 x35 x36 x37 x38 x39 x40 x41 x42 b1002 b1005 b1007 = none := rfl
theorem f47_39_eq (n m : Nat) (s : ByteArray) (op : Int) (ok : Bool) (x25 : ByteArray) (x26 : Int) (x27 : Int) (x28 : Bool) (x29 : Bool) (x30 : ByteArray) (x31 : Int) (x32 : ByteArray) (x34 : ByteArray) (x35 : Bool) (x36 : Bool) (x37 : Bool) (x38 : ByteArray) (x39 : Int) (x40 : Int) (x41 : Bool) (x42 : Bool) (b1002 : (Int × ((Int × ByteArray) × (Int × Int)))) (b1005 : (ByteArray × (Bool × (Bool × (Bool × (Int × Int)))))) (b1007 : (Int × ((Int × ByteArray) × (Int × Int)))) : f47_39 n (m + 1) s op ok x25 x26 x27 x28 x29 x30 x31 x32 x34 x35 x36 x37 x38 x39 x40 x41 x42 b1002 b1005 b1007 =
  bif ok then
   (f32 n b1007).bind fun r1 =>
   bif r1 then
    (f44 n b1007).bind fun r2 =>
    bif ByteArray.toList r2 == s.toList then
     some (b1007, true)
    else
     f47_4 n m s (Go.IntKind.i64.wrap (op + (1 : Int))) b1002
   else
    f47_4 n m s (Go.IntKind.i64.wrap (op + (1 : Int))) b1002
  else
   f47_4 n m s (Go.IntKind.i64.wrap (op + (1 : Int))) b1002 := by kernel_rfl
theorem f47_eq (n : Nat) (s : ByteArray) : f47 n s =
  f47_4 n n s (1 : Int) (((0 : Int), ((0 : Int), ByteArray.empty), (0 : Int), (0 : Int))) := by kernel_rfl
/- convoy/convoyref21.Parse -/
noncomputable def c27 : Cfg := ⟨27, Tryd.f27, [.str], [(.sl 94 (.agg (.pair (.int .i64) (.pair (.agg (.pair (.int .u16) .str)) (.pair (.int .i64) (.int .i64)))))), (.int .i64), (.int .i64)], 7, [7, 8, 14], [(8, ⟨66, 7, [(0, (.val .str)), (5, (.rs 1011)), (6, (.val (.int .i64))), (7, (.val (.int .i64))), (8, (.val (.int .i64)))], [(1011, .row 94 (.agg (.pair (.int .i64) (.pair (.agg (.pair (.int .u16) .str)) (.pair (.int .i64) (.int .i64))))))]⟩), (15, ⟨66, 7, [(0, (.val .str)), (5, (.rs 1011)), (6, (.val (.int .i64))), (7, (.val (.int .i64))), (8, (.val (.int .i64)))], [(1011, .row 94 (.agg (.pair (.int .i64) (.pair (.agg (.pair (.int .u16) .str)) (.pair (.int .i64) (.int .i64))))))]⟩), (29, ⟨66, 7, [(5, (.rs 1011))], [(1011, .row 94 (.agg (.pair (.int .i64) (.pair (.agg (.pair (.int .u16) .str)) (.pair (.int .i64) (.int .i64))))))]⟩), (17, ⟨66, 7, [(0, (.val .str)), (5, (.rs 1011)), (6, (.val (.int .i64))), (7, (.val (.int .i64))), (8, (.val (.int .i64)))], [(1011, .row 94 (.agg (.pair (.int .i64) (.pair (.agg (.pair (.int .u16) .str)) (.pair (.int .i64) (.int .i64))))))]⟩)]⟩
noncomputable def T27 (n : Nat) : Tab := ⟨[e47 n], []⟩
noncomputable def e27 (n : Nat) : Entry := c27.entry Tryd.prog (T27 n) n
theorem ok27 {W0 : World} (n : Nat) : FnOK Tryd.prog W0 (e27 n) := c27.sound (.cons (ok47 n) .nil) n Tryd.func27 (by kernel_rfl) (by kernel_rfl)
noncomputable def f27 (n : Nat) (s : ByteArray) : Option (List (Int × ((Int × ByteArray) × (Int × Int))) × Int × Int) := c27.f Tryd.prog (T27 n) n s
noncomputable def f27_8 (n m : Nat) (s : ByteArray) (x6 : Int) (x7 : Int) (i : Int) (l1011 : List (Int × ((Int × ByteArray) × (Int × Int)))) : Option (List (Int × ((Int × ByteArray) × (Int × Int))) × Int × Int) := c27.LL Tryd.prog (T27 n) m 8 (s, (), x6, x7, i) (l1011, ())
noncomputable def f27_15 (n m : Nat) (s : ByteArray) (x6 : Int) (x7 : Int) (i : Int) (l1011 : List (Int × ((Int × ByteArray) × (Int × Int)))) : Option (List (Int × ((Int × ByteArray) × (Int × Int))) × Int × Int) := c27.LL Tryd.prog (T27 n) m 15 (s, (), x6, x7, i) (l1011, ())
noncomputable def f27_29 (n m : Nat) (l1011 : List (Int × ((Int × ByteArray) × (Int × Int)))) : Option (List (Int × ((Int × ByteArray) × (Int × Int))) × Int × Int) := c27.LL Tryd.prog (T27 n) m 29 () (l1011, ())
noncomputable def f27_17 (n m : Nat) (s : ByteArray) (x6 : Int) (x7 : Int) (i : Int) (l1011 : List (Int × ((Int × ByteArray) × (Int × Int)))) : Option (List (Int × ((Int × ByteArray) × (Int × Int))) × Int × Int) := c27.LL Tryd.prog (T27 n) m 17 (s, (), x6, x7, i) (l1011, ())
theorem f27_8_zero (n : Nat) (s : ByteArray) (x6 : Int) (x7 : Int) (i : Int) (l1011 : List (Int × ((Int × ByteArray) × (Int × Int)))) : f27_8 n 0 s x6 x7 i l1011 = none := rfl
theorem f27_8_eq (n m : Nat) (s : ByteArray) (x6 : Int) (x7 : Int) (i : Int) (l1011 : List (Int × ((Int × ByteArray) × (Int × Int)))) : f27_8 n (m + 1) s x6 x7 i l1011 =
  bif decide (i ≤ ↑s.size) then
   bif decide (i < ↑s.size) then
    bif decide ((0 : Int) ≤ i ∧ i < ↑s.size) then
     bif Go.Rf.byteAt s i != (10 : Int) then
      f27_8 n m s x6 x7 (Go.IntKind.i64.wrap (i + (1 : Int))) l1011
     else
      f27_15 n m s x6 x7 i l1011
    else
     none
   else
    f27_15 n m s x6 x7 i l1011
  else
   f27_29 n m l1011 := by kernel_rfl
theorem f27_15_zero (n : Nat) (s : ByteArray) (x6 : Int) (x7 : Int) (i : Int) (l1011 : List (Int × ((Int × ByteArray) × (Int × Int)))) : f27_15 n 0 s x6 x7 i l1011 = none := rfl
theorem f27_15_eq (n m : Nat) (s : ByteArray) (x6 : Int) (x7 : Int) (i : Int) (l1011 : List (Int × ((Int × ByteArray) × (Int × Int)))) : f27_15 n (m + 1) s x6 x7 i l1011 =
  bif i == ↑s.size then
   bif x7 == i then
    f27_29 n m l1011
   else
    f27_17 n m s x6 x7 i l1011
  else
   f27_17 n m s x6 x7 i l1011 := by kernel_rfl
theorem f27_29_zero (n : Nat) (l1011 : List (Int × ((Int × ByteArray) × (Int × Int)))) : f27_29 n 0 l1011 = none := rfl
theorem f27_29_eq (n m : Nat) (l1011 : List (Int × ((Int × ByteArray) × (Int × Int)))) : f27_29 n (m + 1) l1011 =
  bif decide ((↑l1011.length : Int) > (256 : Int)) then
   some ([], (256 : Int), (3 : Int))
  else
   some (l1011, (0 : Int), (0 : Int)) := by kernel_rfl
theorem f27_17_zero (n : Nat) (s : ByteArray) (x6 : Int) (x7 : Int) (i : Int) (l1011 : List (Int × ((Int × ByteArray) × (Int × Int)))) : f27_17 n 0 s x6 x7 i l1011 = none := rfl
theorem f27_17_eq (n m : Nat) (s : ByteArray) (x6 : Int) (x7 : Int) (i : Int) (l1011 : List (Int × ((Int × ByteArray) × (Int × Int)))) : f27_17 n (m + 1) s x6 x7 i l1011 =
  bif decide ((0 : Int) ≤ x7 ∧ x7 ≤ i ∧ i ≤ ↑s.size) then
   (f47 n (s.extract x7.toNat i.toNat)).bind fun r1 =>
   bif !r1.snd then
    some ([], x6, (212 : Int))
   else
    bif i == ↑s.size then
     some ([], x6, (212 : Int))
    else
     bif decide ((l1011.length + [r1.fst].length) * (48 : Nat) ≤ Go.Rf.maxBytes) then
      f27_8 n m s (Go.IntKind.i64.wrap (x6 + (1 : Int))) (Go.IntKind.i64.wrap (i + (1 : Int))) (Go.IntKind.i64.wrap (i + (1 : Int))) (l1011 ++ [r1.fst])
     else
      none
  else
   none := by kernel_rfl
theorem f27_eq (n : Nat) (s : ByteArray) : f27 n s =
  f27_8 n n s (0 : Int) (0 : Int) (0 : Int) [] := by kernel_rfl
noncomputable def s55Lx0 : ByteArray := { data := #[58] }
/- convoy/key.Text -/
noncomputable def c55L : Cfg := ⟨55, Tryd.f55, [(.agg (.pair (.int .u16) .str))], [.str, (.int .i64)], 5, [], []⟩
noncomputable def T55L (n : Nat) : Tab := ⟨[e52 n, e56L n], []⟩
noncomputable def e55L (n : Nat) : Entry := c55L.entry Tryd.prog (T55L n) n
theorem ok55L {W0 : World} (hL : Laid W0) (n : Nat) : FnOK Tryd.prog W0 (e55L n) := c55L.sound (.cons (ok52 n) (.cons (ok56L hL n) .nil)) n Tryd.func55 (by kernel_rfl) (by kernel_rfl)
noncomputable def f55L (n : Nat) (k : (Int × ByteArray)) : Option (ByteArray × Int) := c55L.f Tryd.prog (T55L n) n k
theorem f55L_eq (n : Nat) (k : (Int × ByteArray)) : f55L n k =
  (f52 n k).bind fun r1 =>
  bif r1 != (0 : Int) then
   some (ByteArray.empty, r1)
  else
   (f56L n (Go.IntKind.i64.wrap k.fst)).bind fun r2 =>
   bif decide ((↑(ByteArray.size r2 + (1 : Nat)) : Int) > Int.ofNat (9223372036854775807 : Nat)) then
    none
   else
    bif decide ((↑((r2 ++ s55Lx0).size + ByteArray.size k.snd) : Int) > Int.ofNat (9223372036854775807 : Nat)) then
     none
    else
     some (r2 ++ s55Lx0 ++ k.snd, (0 : Int)) := by kernel_rfl
noncomputable def s42Lx0 : ByteArray := { data := #[32] }
/- convoy/client.line -/
noncomputable def c42L : Cfg := ⟨42, Tryd.f42, [(.agg (.pair (.int .i64) (.pair (.agg (.pair (.int .u16) .str)) (.pair (.int .i64) (.int .i64)))))], [.str], 6, [], []⟩
noncomputable def T42L (n : Nat) : Tab := ⟨[e29 n, e55L n, e56L n, e57L n, e58 n], []⟩
noncomputable def e42L (n : Nat) : Entry := c42L.entry Tryd.prog (T42L n) n
theorem ok42L {W0 : World} (hL : Laid W0) (n : Nat) : FnOK Tryd.prog W0 (e42L n) := c42L.sound (.cons (ok29 n) (.cons (ok55L hL n) (.cons (ok56L hL n) (.cons (ok57L hL n) (.cons (ok58 n) .nil))))) n Tryd.func42 (by kernel_rfl) (by kernel_rfl)
noncomputable def f42L (n : Nat) (d : (Int × ((Int × ByteArray) × (Int × Int)))) : Option (ByteArray) := c42L.f Tryd.prog (T42L n) n d
theorem f42L_eq (n : Nat) (d : (Int × ((Int × ByteArray) × (Int × Int)))) : f42L n d =
  (f29 n d.fst).bind fun r1 =>
  bif r1.snd.fst then
   (f55L n d.snd.fst).bind fun r2 =>
   bif r1.snd.snd.fst then
    (f56L n d.snd.snd.snd).bind fun r3 =>
    bif r1.snd.snd.snd.fst then
     (f57L n d.snd.snd.fst (10 : Int)).bind fun r4 =>
     (f58 n [r1.fst, r2.fst, r3, r4] s42Lx0).bind fun r5 =>
     some r5
    else
     (f58 n [r1.fst, r2.fst, r3] s42Lx0).bind fun r6 =>
     some r6
   else
    bif r1.snd.snd.snd.fst then
     (f57L n d.snd.snd.fst (10 : Int)).bind fun r7 =>
     (f58 n [r1.fst, r2.fst, r7] s42Lx0).bind fun r8 =>
     some r8
    else
     (f58 n [r1.fst, r2.fst] s42Lx0).bind fun r9 =>
     some r9
  else
   bif r1.snd.snd.fst then
    (f56L n d.snd.snd.snd).bind fun r10 =>
    bif r1.snd.snd.snd.fst then
     (f57L n d.snd.snd.fst (10 : Int)).bind fun r11 =>
     (f58 n [r1.fst, r10, r11] s42Lx0).bind fun r12 =>
     some r12
    else
     (f58 n [r1.fst, r10] s42Lx0).bind fun r13 =>
     some r13
   else
    bif r1.snd.snd.snd.fst then
     (f57L n d.snd.snd.fst (10 : Int)).bind fun r14 =>
     (f58 n [r1.fst, r14] s42Lx0).bind fun r15 =>
     some r15
    else
     (f58 n [r1.fst] s42Lx0).bind fun r16 =>
     some r16 := by kernel_rfl
/- convoy/client.number -/
noncomputable def c64 : Cfg := ⟨64, Tryd.f64, [.str], [(.int .i64)], 4, [], []⟩
noncomputable def T64 (n : Nat) : Tab := ⟨[e77L n], []⟩
noncomputable def e64 (n : Nat) : Entry := c64.entry Tryd.prog (T64 n) n
theorem ok64 {W0 : World} (hL : Laid W0) (n : Nat) : FnOK Tryd.prog W0 (e64 n) := c64.sound (.cons (ok77L hL n) .nil) n Tryd.func64 (by kernel_rfl) (by kernel_rfl)
noncomputable def f64 (n : Nat) (s : ByteArray) : Option (Int) := c64.f Tryd.prog (T64 n) n s
theorem f64_eq (n : Nat) (s : ByteArray) : f64 n s =
  (f77L n s (10 : Int) (64 : Int)).bind fun r1 =>
  bif r1.snd then
   some (-1 : Int)
  else
   some r1.fst := by kernel_rfl
/- internal/stringslite.Cut -/
noncomputable def c61 : Cfg := ⟨61, Tryd.f61, [.str, .str], [.str, .str, .bool], 5, [], []⟩
noncomputable def T61 (n : Nat) : Tab := ⟨[e69 n], []⟩
noncomputable def e61 (n : Nat) : Entry := c61.entry Tryd.prog (T61 n) n
theorem ok61 {W0 : World} (n : Nat) : FnOK Tryd.prog W0 (e61 n) := c61.sound (.cons (ok69 n) .nil) n Tryd.func61 (by kernel_rfl) (by kernel_rfl)
noncomputable def f61 (n : Nat) (s : ByteArray) (sep : ByteArray) : Option (ByteArray × ByteArray × Bool) := c61.f Tryd.prog (T61 n) n (s, sep)
theorem f61_eq (n : Nat) (s : ByteArray) (sep : ByteArray) : f61 n s sep =
  (f69 n s sep).bind fun r1 =>
  bif decide (r1 ≥ (0 : Int)) then
   bif decide ((0 : Int) ≤ (0 : Int) ∧ (0 : Int) ≤ r1 ∧ r1 ≤ ↑s.size) then
    bif decide ((0 : Int) ≤ Go.IntKind.i64.wrap (r1 + ↑sep.size) ∧ Go.IntKind.i64.wrap (r1 + ↑sep.size) ≤ ↑s.size ∧ (↑s.size : Int) ≤ ↑s.size) then
     some (s.extract (0 : Nat) (Int.toNat r1), s.extract (Go.IntKind.i64.wrap (r1 + ↑sep.size)).toNat (↑s.size : Int).toNat, true)
    else
     none
   else
    none
  else
   some (s, ByteArray.empty, false) := by kernel_rfl
/- strings.Cut -/
noncomputable def c45 : Cfg := ⟨45, Tryd.f45, [.str, .str], [.str, .str, .bool], 4, [], []⟩
noncomputable def T45 (n : Nat) : Tab := ⟨[e61 n], []⟩
noncomputable def e45 (n : Nat) : Entry := c45.entry Tryd.prog (T45 n) n
theorem ok45 {W0 : World} (n : Nat) : FnOK Tryd.prog W0 (e45 n) := c45.sound (.cons (ok61 n) .nil) n Tryd.func45 (by kernel_rfl) (by kernel_rfl)
noncomputable def f45 (n : Nat) (s : ByteArray) (sep : ByteArray) : Option (ByteArray × ByteArray × Bool) := c45.f Tryd.prog (T45 n) n (s, sep)
theorem f45_eq (n : Nat) (s : ByteArray) (sep : ByteArray) : f45 n s sep =
  (f61 n s sep).bind fun r1 =>
  some (r1.fst, r1.snd.fst, r1.snd.snd) := by kernel_rfl
/- convoy/key.Parse -/
noncomputable def c63 : Cfg := ⟨63, Tryd.f63, [.str], [(.agg (.pair (.int .u16) .str)), (.int .i64), (.int .i64)], 7, [3, 5, 9], [(4, ⟨80, 7, [(0, (.val .str)), (2, (.ptr 1002 [])), (5, (.val (.int .i64))), (6, (.val (.int .i64)))], [(1002, .box (.val (.agg (.pair (.int .u16) .str))))]⟩), (7, ⟨80, 7, [(0, (.val .str)), (2, (.ptr 1002 [])), (5, (.val (.int .i64))), (6, (.val (.int .i64))), (12, (.val .str)), (13, (.val (.int .i64))), (14, (.val (.int .u8))), (15, (.val .bool)), (18, (.val .str)), (19, (.val (.int .i64))), (20, (.val (.int .u8))), (21, (.val .bool))], [(1002, .box (.val (.agg (.pair (.int .u16) .str))))]⟩), (19, ⟨80, 7, [(0, (.val .str)), (2, (.ptr 1002 [])), (5, (.val (.int .i64))), (6, (.val (.int .i64)))], [(1002, .box (.val (.agg (.pair (.int .u16) .str))))]⟩), (11, ⟨80, 7, [(0, (.val .str)), (2, (.ptr 1002 [])), (5, (.val (.int .i64))), (6, (.val (.int .i64))), (12, (.val .str)), (13, (.val (.int .i64))), (14, (.val (.int .u8))), (15, (.val .bool)), (18, (.val .str)), (19, (.val (.int .i64))), (20, (.val (.int .u8))), (21, (.val .bool))], [(1002, .box (.val (.agg (.pair (.int .u16) .str))))]⟩)]⟩
noncomputable def T63 (_ : Nat) : Tab := ⟨[], []⟩
noncomputable def e63 (n : Nat) : Entry := c63.entry Tryd.prog (T63 n) n
theorem ok63 {W0 : World} (n : Nat) : FnOK Tryd.prog W0 (e63 n) := c63.sound .nil n Tryd.func63 (by kernel_rfl) (by kernel_rfl)
noncomputable def f63 (n : Nat) (s : ByteArray) : Option ((Int × ByteArray) × Int × Int) := c63.f Tryd.prog (T63 n) n s
noncomputable def f63_4 (n m : Nat) (s : ByteArray) (x5 : Int) (x6 : Int) (b1002 : (Int × ByteArray)) : Option ((Int × ByteArray) × Int × Int) := c63.LL Tryd.prog (T63 n) m 4 (s, (), x5, x6) (b1002, ())
noncomputable def f63_7 (n m : Nat) (s : ByteArray) (x5 : Int) (x6 : Int) (x12 : ByteArray) (x13 : Int) (x14 : Int) (x15 : Bool) (x18 : ByteArray) (x19 : Int) (x20 : Int) (x21 : Bool) (b1002 : (Int × ByteArray)) : Option ((Int × ByteArray) × Int × Int) := c63.LL Tryd.prog (T63 n) m 7 (s, (), x5, x6, x12, x13, x14, x15, x18, x19, x20, x21) (b1002, ())
noncomputable def f63_19 (n m : Nat) (s : ByteArray) (x5 : Int) (x6 : Int) (b1002 : (Int × ByteArray)) : Option ((Int × ByteArray) × Int × Int) := c63.LL Tryd.prog (T63 n) m 19 (s, (), x5, x6) (b1002, ())
noncomputable def f63_11 (n m : Nat) (s : ByteArray) (x5 : Int) (x6 : Int) (x12 : ByteArray) (x13 : Int) (x14 : Int) (x15 : Bool) (x18 : ByteArray) (x19 : Int) (x20 : Int) (x21 : Bool) (b1002 : (Int × ByteArray)) : Option ((Int × ByteArray) × Int × Int) := c63.LL Tryd.prog (T63 n) m 11 (s, (), x5, x6, x12, x13, x14, x15, x18, x19, x20, x21) (b1002, ())
theorem f63_4_zero (n : Nat) (s : ByteArray) (x5 : Int) (x6 : Int) (b1002 : (Int × ByteArray)) : f63_4 n 0 s x5 x6 b1002 = none := rfl
theorem f63_4_eq (n m : Nat) (s : ByteArray) (x5 : Int) (x6 : Int) (b1002 : (Int × ByteArray)) : f63_4 n (m + 1) s x5 x6 b1002 =
  bif decide (x6 < ↑s.size) then
   bif decide ((0 : Int) ≤ x6 ∧ x6 < ↑s.size) then
    bif decide (Go.Rf.byteAt s x6 ≥ (48 : Int)) then
     bif decide ((0 : Int) ≤ x6 ∧ x6 < ↑s.size) then
      bif decide (Go.Rf.byteAt s x6 ≤ (57 : Int)) then
       f63_7 n m s x5 x6 s x6 (Go.Rf.byteAt s x6) (decide (Go.Rf.byteAt s x6 ≥ (48 : Int))) s x6 (Go.Rf.byteAt s x6) (decide (Go.Rf.byteAt s x6 ≤ (57 : Int))) b1002
      else
       f63_19 n m s x5 x6 b1002
     else
      none
    else
     f63_19 n m s x5 x6 b1002
   else
    none
  else
   f63_19 n m s x5 x6 b1002 := by kernel_rfl
theorem f63_7_zero (n : Nat) (s : ByteArray) (x5 : Int) (x6 : Int) (x12 : ByteArray) (x13 : Int) (x14 : Int) (x15 : Bool) (x18 : ByteArray) (x19 : Int) (x20 : Int) (x21 : Bool) (b1002 : (Int × ByteArray)) : f63_7 n 0 s x5 x6 x12 x13 x14 x15 x18 x19 x20 x21 b1002 = none := rfl
theorem f63_7_eq (n m : Nat) (s : ByteArray) (x5 : Int) (x6 : Int) (x12 : ByteArray) (x13 : Int) (x14 : Int) (x15 : Bool) (x18 : ByteArray) (x19 : Int) (x20 : Int) (x21 : Bool) (b1002 : (Int × ByteArray)) : f63_7 n (m + 1) s x5 x6 x12 x13 x14 x15 x18 x19 x20 x21 b1002 =
  bif decide (x6 > (0 : Int)) then
   bif x5 == (0 : Int) then
    some (((0 : Int), ByteArray.empty), x6, (20 : Int))
   else
    f63_11 n m s x5 x6 x12 x13 x14 x15 x18 x19 x20 x21 b1002
  else
   f63_11 n m s x5 x6 x12 x13 x14 x15 x18 x19 x20 x21 b1002 := by kernel_rfl
theorem f63_19_zero (n : Nat) (s : ByteArray) (x5 : Int) (x6 : Int) (b1002 : (Int × ByteArray)) : f63_19 n 0 s x5 x6 b1002 = none := rfl
theorem f63_19_eq (n m : Nat) (s : ByteArray) (x5 : Int) (x6 : Int) (b1002 : (Int × ByteArray)) : f63_19 n (m + 1) s x5 x6 b1002 =
  bif x6 == (0 : Int) then
   some (((0 : Int), ByteArray.empty), x6, (20 : Int))
  else
   bif x6 == ↑s.size then
    some (((0 : Int), ByteArray.empty), x6, (20 : Int))
   else
    bif decide ((0 : Int) ≤ x6 ∧ x6 < ↑s.size) then
     bif Go.Rf.byteAt s x6 != (58 : Int) then
      some (((0 : Int), ByteArray.empty), x6, (20 : Int))
     else
      bif decide (Go.IntKind.i64.wrap (Go.IntKind.i64.wrap (↑s.size - x6) - (1 : Int)) > (64 : Int)) then
       some (((0 : Int), ByteArray.empty), Go.IntKind.i64.wrap (Go.IntKind.i64.wrap (x6 + (1 : Int)) + (64 : Int)), (20 : Int))
      else
       bif decide ((0 : Int) ≤ Go.IntKind.i64.wrap (x6 + (1 : Int)) ∧ Go.IntKind.i64.wrap (x6 + (1 : Int)) ≤ ↑s.size ∧ (↑s.size : Int) ≤ ↑s.size) then
        some ((Go.IntKind.u16.wrap x5, s.extract (Go.IntKind.i64.wrap (x6 + (1 : Int))).toNat (↑s.size : Int).toNat), (0 : Int), (0 : Int))
       else
        none
    else
     none := by kernel_rfl
theorem f63_11_zero (n : Nat) (s : ByteArray) (x5 : Int) (x6 : Int) (x12 : ByteArray) (x13 : Int) (x14 : Int) (x15 : Bool) (x18 : ByteArray) (x19 : Int) (x20 : Int) (x21 : Bool) (b1002 : (Int × ByteArray)) : f63_11 n 0 s x5 x6 x12 x13 x14 x15 x18 x19 x20 x21 b1002 = none := rfl
theorem f63_11_eq (n m : Nat) (s : ByteArray) (x5 : Int) (x6 : Int) (x12 : ByteArray) (x13 : Int) (x14 : Int) (x15 : Bool) (x18 : ByteArray) (x19 : Int) (x20 : Int) (x21 : Bool) (b1002 : (Int × ByteArray)) : f63_11 n (m + 1) s x5 x6 x12 x13 x14 x15 x18 x19 x20 x21 b1002 =
  bif decide ((0 : Int) ≤ x6 ∧ x6 < ↑s.size) then
   bif decide (Go.IntKind.i64.wrap (Go.IntKind.i64.wrap ((10 : Int) * x5) + Go.IntKind.i64.wrap (Go.IntKind.u8.wrap (Go.Rf.byteAt s x6 - (48 : Int)))) > (65535 : Int)) then
    some (((0 : Int), ByteArray.empty), x6, (20 : Int))
   else
    f63_4 n m s (Go.IntKind.i64.wrap (Go.IntKind.i64.wrap ((10 : Int) * x5) + Go.IntKind.i64.wrap (Go.IntKind.u8.wrap (Go.Rf.byteAt s x6 - (48 : Int))))) (Go.IntKind.i64.wrap (x6 + (1 : Int))) b1002
  else
   none := by kernel_rfl
theorem f63_eq (n : Nat) (s : ByteArray) : f63 n s =
  f63_4 n n s (0 : Int) (0 : Int) (((0 : Int), ByteArray.empty)) := by kernel_rfl
noncomputable def s46x0 : ByteArray := { data := #[32] }
/- convoy/client.read -/
noncomputable def c46 : Cfg := ⟨46, Tryd.f46, [.str], [(.agg (.pair (.int .i64) (.pair (.agg (.pair (.int .u16) .str)) (.pair (.int .i64) (.int .i64))))), .bool], 7, [15, 17, 19], [(8, ⟨74, 7, [(0, (.val .str)), (2, (.ptr 1002 [])), (3, (.val .bool)), (4, (.val .str)), (5, (.val .str)), (7, (.ptr 1007 [])), (8, (.val (.int .i64)))], [(1002, .box (.val (.agg (.pair (.int .i64) (.pair (.agg (.pair (.int .u16) .str)) (.pair (.int .i64) (.int .i64))))))), (1007, .box (.val (.agg (.pair (.int .i64) (.pair (.agg (.pair (.int .u16) .str)) (.pair (.int .i64) (.int .i64)))))))]⟩), (31, ⟨74, 7, [(0, (.val .str)), (2, (.ptr 1002 [])), (3, (.val .bool)), (5, (.val .str)), (7, (.ptr 1007 [])), (9, (.ptr 1009 []))], [(1002, .box (.val (.agg (.pair (.int .i64) (.pair (.agg (.pair (.int .u16) .str)) (.pair (.int .i64) (.int .i64))))))), (1007, .box (.val (.agg (.pair (.int .i64) (.pair (.agg (.pair (.int .u16) .str)) (.pair (.int .i64) (.int .i64))))))), (1009, .box (.val (.agg (.pair .str (.pair .bool (.pair .bool (.pair .bool (.int .i64))))))))]⟩), (35, ⟨74, 7, [(0, (.val .str)), (2, (.ptr 1002 [])), (3, (.val .bool)), (5, (.val .str)), (7, (.ptr 1007 [])), (9, (.ptr 1009 []))], [(1002, .box (.val (.agg (.pair (.int .i64) (.pair (.agg (.pair (.int .u16) .str)) (.pair (.int .i64) (.int .i64))))))), (1007, .box (.val (.agg (.pair (.int .i64) (.pair (.agg (.pair (.int .u16) .str)) (.pair (.int .i64) (.int .i64))))))), (1009, .box (.val (.agg (.pair .str (.pair .bool (.pair .bool (.pair .bool (.int .i64))))))))]⟩), (39, ⟨74, 7, [(0, (.val .str)), (2, (.ptr 1002 [])), (3, (.val .bool)), (7, (.ptr 1007 []))], [(1002, .box (.val (.agg (.pair (.int .i64) (.pair (.agg (.pair (.int .u16) .str)) (.pair (.int .i64) (.int .i64))))))), (1007, .box (.val (.agg (.pair (.int .i64) (.pair (.agg (.pair (.int .u16) .str)) (.pair (.int .i64) (.int .i64)))))))]⟩)]⟩
noncomputable def T46 (n : Nat) : Tab := ⟨[e45 n, e29 n, e62 n, e63 n, e64 n, e39 n, e42L n], []⟩
noncomputable def e46 (n : Nat) : Entry := c46.entry Tryd.prog (T46 n) n
theorem ok46 {W0 : World} (hL : Laid W0) (n : Nat) : FnOK Tryd.prog W0 (e46 n) := c46.sound (.cons (ok45 n) (.cons (ok29 n) (.cons (ok62 n) (.cons (ok63 n) (.cons (ok64 hL n) (.cons (ok39 n) (.cons (ok42L hL n) .nil))))))) n Tryd.func46 (by kernel_rfl) (by kernel_rfl)
noncomputable def f46 (n : Nat) (s : ByteArray) : Option ((Int × ((Int × ByteArray) × (Int × Int))) × Bool) := c46.f Tryd.prog (T46 n) n s
noncomputable def f46_8 (n m : Nat) (s : ByteArray) (x3 : Bool) (word : ByteArray) (rest : ByteArray) (op : Int) (b1002 : (Int × ((Int × ByteArray) × (Int × Int)))) (b1007 : (Int × ((Int × ByteArray) × (Int × Int)))) : Option ((Int × ((Int × ByteArray) × (Int × Int))) × Bool) := c46.LL Tryd.prog (T46 n) m 8 (s, (), x3, word, rest, (), op) (b1002, b1007, ())
noncomputable def f46_31 (n m : Nat) (s : ByteArray) (x3 : Bool) (rest : ByteArray) (b1002 : (Int × ((Int × ByteArray) × (Int × Int)))) (b1007 : (Int × ((Int × ByteArray) × (Int × Int)))) (b1009 : (ByteArray × (Bool × (Bool × (Bool × Int))))) : Option ((Int × ((Int × ByteArray) × (Int × Int))) × Bool) := c46.LL Tryd.prog (T46 n) m 31 (s, (), x3, rest, (), ()) (b1002, b1007, b1009, ())
noncomputable def f46_35 (n m : Nat) (s : ByteArray) (x3 : Bool) (rest : ByteArray) (b1002 : (Int × ((Int × ByteArray) × (Int × Int)))) (b1007 : (Int × ((Int × ByteArray) × (Int × Int)))) (b1009 : (ByteArray × (Bool × (Bool × (Bool × Int))))) : Option ((Int × ((Int × ByteArray) × (Int × Int))) × Bool) := c46.LL Tryd.prog (T46 n) m 35 (s, (), x3, rest, (), ()) (b1002, b1007, b1009, ())
noncomputable def f46_39 (n m : Nat) (s : ByteArray) (x3 : Bool) (b1002 : (Int × ((Int × ByteArray) × (Int × Int)))) (b1007 : (Int × ((Int × ByteArray) × (Int × Int)))) : Option ((Int × ((Int × ByteArray) × (Int × Int))) × Bool) := c46.LL Tryd.prog (T46 n) m 39 (s, (), x3, ()) (b1002, b1007, ())
theorem f46_8_zero (n : Nat) (s : ByteArray) (x3 : Bool) (word : ByteArray) (rest : ByteArray) (op : Int) (b1002 : (Int × ((Int × ByteArray) × (Int × Int)))) (b1007 : (Int × ((Int × ByteArray) × (Int × Int)))) : f46_8 n 0 s x3 word rest op b1002 b1007 = none := rfl
theorem f46_8_eq (n m : Nat) (s : ByteArray) (x3 : Bool) (word : ByteArray) (rest : ByteArray) (op : Int) (b1002 : (Int × ((Int × ByteArray) × (Int × Int)))) (b1007 : (Int × ((Int × ByteArray) × (Int × Int)))) : f46_8 n (m + 1) s x3 word rest op b1002 b1007 =
  bif decide (op ≤ (9 : Int)) then
   (f29 n op).bind fun r1 =>
   bif ByteArray.toList r1.fst == word.toList then
    f46_8 n m s x3 word rest (Go.IntKind.i64.wrap (op + (1 : Int))) b1002 (op, b1007.snd)
   else
    f46_8 n m s x3 word rest (Go.IntKind.i64.wrap (op + (1 : Int))) b1002 b1007
  else
   (f29 n b1007.fst).bind fun r2 =>
   bif r2.snd.fst then
    bif r2.snd.snd.fst then
     (f62 n rest s46x0).bind fun r3 =>
     bif decide ((0 : Int) ≤ (0 : Int) ∧ ((0 : Int) ≤ if (0 : Int) > r3 then (0 : Int) else r3) ∧ (if (0 : Int) > r3 then (0 : Int) else r3) ≤ ↑rest.size) then
      bif decide ((0 : Int) ≤ Go.IntKind.i64.wrap (r3 + (1 : Int)) ∧ Go.IntKind.i64.wrap (r3 + (1 : Int)) ≤ ↑rest.size ∧ (↑rest.size : Int) ≤ ↑rest.size) then
       (f63 n (rest.extract (0 : Nat) (if (0 : Int) > r3 then (0 : Int) else r3).toNat)).bind fun r4 =>
       f46_31 n m s x3 (rest.extract (Go.IntKind.i64.wrap (r3 + (1 : Int))).toNat (↑rest.size : Int).toNat) b1002 (b1007.fst, r4.fst, b1007.snd.snd) r2
      else
       none
     else
      none
    else
     (f63 n rest).bind fun r5 =>
     f46_31 n m s x3 rest b1002 (b1007.fst, r5.fst, b1007.snd.snd) r2
   else
    f46_31 n m s x3 rest b1002 b1007 r2 := by kernel_rfl
theorem f46_31_zero (n : Nat) (s : ByteArray) (x3 : Bool) (rest : ByteArray) (b1002 : (Int × ((Int × ByteArray) × (Int × Int)))) (b1007 : (Int × ((Int × ByteArray) × (Int × Int)))) (b1009 : (ByteArray × (Bool × (Bool × (Bool × Int))))) : f46_31 n 0 s x3 rest b1002 b1007 b1009 = none := rfl
theorem f46_31_eq (n m : Nat) (s : ByteArray) (x3 : Bool) (rest : ByteArray) (b1002 : (Int × ((Int × ByteArray) × (Int × Int)))) (b1007 : (Int × ((Int × ByteArray) × (Int × Int)))) (b1009 : (ByteArray × (Bool × (Bool × (Bool × Int))))) : f46_31 n (m + 1) s x3 rest b1002 b1007 b1009 =
  bif b1009.snd.snd.fst then
   (f64 n rest).bind fun r1 =>
   f46_35 n m s x3 rest b1002 (b1007.fst, b1007.snd.fst, b1007.snd.snd.fst, r1) b1009
  else
   f46_35 n m s x3 rest b1002 b1007 b1009 := by kernel_rfl
theorem f46_35_zero (n : Nat) (s : ByteArray) (x3 : Bool) (rest : ByteArray) (b1002 : (Int × ((Int × ByteArray) × (Int × Int)))) (b1007 : (Int × ((Int × ByteArray) × (Int × Int)))) (b1009 : (ByteArray × (Bool × (Bool × (Bool × Int))))) : f46_35 n 0 s x3 rest b1002 b1007 b1009 = none := rfl
theorem f46_35_eq (n m : Nat) (s : ByteArray) (x3 : Bool) (rest : ByteArray) (b1002 : (Int × ((Int × ByteArray) × (Int × Int)))) (b1007 : (Int × ((Int × ByteArray) × (Int × Int)))) (b1009 : (ByteArray × (Bool × (Bool × (Bool × Int))))) : f46_35 n (m + 1) s x3 rest b1002 b1007 b1009 =
  bif b1009.snd.snd.snd.fst then
   (f64 n rest).bind fun r1 =>
   f46_39 n m s x3 b1002 (b1007.fst, b1007.snd.fst, r1, b1007.snd.snd.snd)
  else
   f46_39 n m s x3 b1002 b1007 := by kernel_rfl
theorem f46_39_zero (n : Nat) (s : ByteArray) (x3 : Bool) (b1002 : (Int × ((Int × ByteArray) × (Int × Int)))) (b1007 : (Int × ((Int × ByteArray) × (Int × Int)))) : f46_39 n 0 s x3 b1002 b1007 = none := rfl
theorem f46_39_eq (n m : Nat) (s : ByteArray) (x3 : Bool) (b1002 : (Int × ((Int × ByteArray) × (Int × Int)))) (b1007 : (Int × ((Int × ByteArray) × (Int × Int)))) : f46_39 n (m + 1) s x3 b1002 b1007 =
  (f39 n b1007).bind fun r1 =>
  bif r1 then
   (f42L n b1007).bind fun r2 =>
   some (b1007, ByteArray.toList r2 == s.toList)
  else
   some (b1007, false) := by kernel_rfl
theorem f46_eq (n : Nat) (s : ByteArray) : f46 n s =
  (f45 n s s46x0).bind fun r1 =>
  f46_8 n n s false r1.fst r1.snd.fst (1 : Int) (((0 : Int), ((0 : Int), ByteArray.empty), (0 : Int), (0 : Int))) (((0 : Int), ((0 : Int), ByteArray.empty), (0 : Int), (0 : Int))) := by kernel_rfl
noncomputable def s26x0 : ByteArray := { data := #[10] }
/- convoy/client.Parse -/
noncomputable def c26 : Cfg := ⟨26, Tryd.f26, [.str], [(.sl 29 (.agg (.pair (.int .i64) (.pair (.agg (.pair (.int .u16) .str)) (.pair (.int .i64) (.int .i64)))))), (.int .i64), (.int .i64)], 6, [], [(6, ⟨43, 6, [(0, (.val .str)), (5, (.rs 1005)), (6, (.val (.int .i64)))], [(1005, .row 29 (.agg (.pair (.int .i64) (.pair (.agg (.pair (.int .u16) .str)) (.pair (.int .i64) (.int .i64))))))]⟩)]⟩
noncomputable def T26 (n : Nat) : Tab := ⟨[e45 n, e46 n], []⟩
noncomputable def e26 (n : Nat) : Entry := c26.entry Tryd.prog (T26 n) n
theorem ok26 {W0 : World} (hL : Laid W0) (n : Nat) : FnOK Tryd.prog W0 (e26 n) := c26.sound (.cons (ok45 n) (.cons (ok46 hL n) .nil)) n Tryd.func26 (by kernel_rfl) (by kernel_rfl)
noncomputable def f26 (n : Nat) (s : ByteArray) : Option (List (Int × ((Int × ByteArray) × (Int × Int))) × Int × Int) := c26.f Tryd.prog (T26 n) n s
noncomputable def f26_6 (n m : Nat) (s : ByteArray) (i : Int) (l1005 : List (Int × ((Int × ByteArray) × (Int × Int)))) : Option (List (Int × ((Int × ByteArray) × (Int × Int))) × Int × Int) := c26.LL Tryd.prog (T26 n) m 6 (s, (), i) (l1005, ())
theorem f26_6_zero (n : Nat) (s : ByteArray) (i : Int) (l1005 : List (Int × ((Int × ByteArray) × (Int × Int)))) : f26_6 n 0 s i l1005 = none := rfl
theorem f26_6_eq (n m : Nat) (s : ByteArray) (i : Int) (l1005 : List (Int × ((Int × ByteArray) × (Int × Int)))) : f26_6 n (m + 1) s i l1005 =
  bif !s.toList == ByteArray.empty.toList then
   (f45 n s s26x0).bind fun r1 =>
   (f46 n r1.fst).bind fun r2 =>
   bif !r2.snd then
    some ([], i, (212 : Int))
   else
    bif !r1.snd.snd then
     some ([], i, (212 : Int))
    else
     bif decide ((l1005.length + [r2.fst].length) * (48 : Nat) ≤ Go.Rf.maxBytes) then
      f26_6 n m r1.snd.fst (Go.IntKind.i64.wrap (i + (1 : Int))) (l1005 ++ [r2.fst])
     else
      none
  else
   bif decide ((↑l1005.length : Int) > (256 : Int)) then
    some ([], (256 : Int), (3 : Int))
   else
    some (l1005, (0 : Int), (0 : Int)) := by kernel_rfl
theorem f26_eq (n : Nat) (s : ByteArray) : f26 n s =
  f26_6 n n s (0 : Int) [] := by kernel_rfl
/- convoy/convoylaw21.same -/
noncomputable def c28 : Cfg := ⟨28, Tryd.f28, [(.sl 94 (.agg (.pair (.int .i64) (.pair (.agg (.pair (.int .u16) .str)) (.pair (.int .i64) (.int .i64)))))), (.sl 94 (.agg (.pair (.int .i64) (.pair (.agg (.pair (.int .u16) .str)) (.pair (.int .i64) (.int .i64))))))], [.bool], 5, [], [(8, ⟨26, 5, [(0, (.val (.sl 94 (.agg (.pair (.int .i64) (.pair (.agg (.pair (.int .u16) .str)) (.pair (.int .i64) (.int .i64)))))))), (1, (.val (.sl 94 (.agg (.pair (.int .i64) (.pair (.agg (.pair (.int .u16) .str)) (.pair (.int .i64) (.int .i64)))))))), (5, (.val (.int .i64)))], []⟩)]⟩
noncomputable def T28 (_ : Nat) : Tab := ⟨[], []⟩
noncomputable def e28 (n : Nat) : Entry := c28.entry Tryd.prog (T28 n) n
theorem ok28 {W0 : World} (n : Nat) : FnOK Tryd.prog W0 (e28 n) := c28.sound .nil n Tryd.func28 (by kernel_rfl) (by kernel_rfl)
noncomputable def f28 (n : Nat) (a : List (Int × ((Int × ByteArray) × (Int × Int)))) (b : List (Int × ((Int × ByteArray) × (Int × Int)))) : Option (Bool) := c28.f Tryd.prog (T28 n) n (a, b)
noncomputable def f28_8 (n m : Nat) (a : List (Int × ((Int × ByteArray) × (Int × Int)))) (b : List (Int × ((Int × ByteArray) × (Int × Int)))) (i : Int) : Option (Bool) := c28.LL Tryd.prog (T28 n) m 8 (a, b, i) ()
theorem f28_8_zero (n : Nat) (a : List (Int × ((Int × ByteArray) × (Int × Int)))) (b : List (Int × ((Int × ByteArray) × (Int × Int)))) (i : Int) : f28_8 n 0 a b i = none := rfl
theorem f28_8_eq (n m : Nat) (a : List (Int × ((Int × ByteArray) × (Int × Int)))) (b : List (Int × ((Int × ByteArray) × (Int × Int)))) (i : Int) : f28_8 n (m + 1) a b i =
  bif decide (i < ↑a.length) then
   bif decide ((0 : Int) ≤ i ∧ i < ↑a.length) then
    bif decide ((0 : Int) ≤ i ∧ i < ↑b.length) then
     bif !((a.getD i.toNat ((0 : Int), ((0 : Int), ByteArray.empty), (0 : Int), (0 : Int))).fst == (b.getD i.toNat ((0 : Int), ((0 : Int), ByteArray.empty), (0 : Int), (0 : Int))).fst && ((a.getD i.toNat ((0 : Int), ((0 : Int), ByteArray.empty), (0 : Int), (0 : Int))).snd.fst.fst == (b.getD i.toNat ((0 : Int), ((0 : Int), ByteArray.empty), (0 : Int), (0 : Int))).snd.fst.fst && (a.getD i.toNat ((0 : Int), ((0 : Int), ByteArray.empty), (0 : Int), (0 : Int))).snd.fst.snd == (b.getD i.toNat ((0 : Int), ((0 : Int), ByteArray.empty), (0 : Int), (0 : Int))).snd.fst.snd && ((a.getD i.toNat ((0 : Int), ((0 : Int), ByteArray.empty), (0 : Int), (0 : Int))).snd.snd.fst == (b.getD i.toNat ((0 : Int), ((0 : Int), ByteArray.empty), (0 : Int), (0 : Int))).snd.snd.fst && (a.getD i.toNat ((0 : Int), ((0 : Int), ByteArray.empty), (0 : Int), (0 : Int))).snd.snd.snd == (b.getD i.toNat ((0 : Int), ((0 : Int), ByteArray.empty), (0 : Int), (0 : Int))).snd.snd.snd))) then
      some false
     else
      f28_8 n m a b (Go.IntKind.i64.wrap (i + (1 : Int)))
    else
     none
   else
    none
  else
   some true := by kernel_rfl
theorem f28_eq (n : Nat) (a : List (Int × ((Int × ByteArray) × (Int × Int)))) (b : List (Int × ((Int × ByteArray) × (Int × Int)))) : f28 n a b =
  bif (↑a.length : Int) != ↑b.length then
   some false
  else
   f28_8 n n a b (0 : Int) := by kernel_rfl
noncomputable def s24Lx0 : ByteArray := { data := #[10] }
/- convoy/client.Text -/
noncomputable def c24L : Cfg := ⟨24, Tryd.f24, [(.sl 29 (.agg (.pair (.int .i64) (.pair (.agg (.pair (.int .u16) .str)) (.pair (.int .i64) (.int .i64))))))], [.str, (.int .i64), (.int .i64)], 6, [], [(12, ⟨37, 6, [(7, (.ptr 1007 [])), (19, (.val (.sl 29 (.agg (.pair (.int .i64) (.pair (.agg (.pair (.int .u16) .str)) (.pair (.int .i64) (.int .i64)))))))), (20, (.val (.int .i64))), (21, (.val (.int .i64)))], [(1007, .box (.agg (.pair .nilp (.pair (.rs 501007) (.val (.arr 0 (.fn 103))))))), (501007, .row 5 (.int .u8))]⟩), (1000012, ⟨37, 6, [(7, (.ptr 1007 [])), (19, (.val (.sl 29 (.agg (.pair (.int .i64) (.pair (.agg (.pair (.int .u16) .str)) (.pair (.int .i64) (.int .i64)))))))), (20, (.val (.int .i64))), (21, (.val (.int .i64)))], [(1007, .box (.agg (.pair (.ptr 1007 []) (.pair (.rs 501007) (.val (.arr 0 (.fn 103))))))), (501007, .row 5 (.int .u8))]⟩)]⟩
noncomputable def T24L (n : Nat) : Tab := ⟨[e23 n, e40 n, e42L n], [e41z n, e41u n, e43z n, e43u n]⟩
noncomputable def e24L (n : Nat) : Entry := c24L.entry Tryd.prog (T24L n) n
theorem ok24L {W0 : World} (hL : Laid W0) (n : Nat) : FnOK Tryd.prog W0 (e24L n) := c24L.sound (.cons (ok23 n) (.cons (ok40 n) (.cons (ok42L hL n) (.ocons (ok41z n) (.ocons (ok41u n) (.ocons (ok43z n) (.ocons (ok43u n) .nil))))))) n Tryd.func24 (by kernel_rfl) (by kernel_rfl)
noncomputable def f24L (n : Nat) (l : List (Int × ((Int × ByteArray) × (Int × Int)))) : Option (ByteArray × Int × Int) := c24L.f Tryd.prog (T24L n) n l
noncomputable def f24L_12 (n m : Nat) (x19 : List (Int × ((Int × ByteArray) × (Int × Int)))) (x20 : Int) (x21 : Int) (b1007bb : List Unit) (l501007 : List Int) : Option (ByteArray × Int × Int) := c24L.LL Tryd.prog (T24L n) m 12 ((), x19, x20, x21) (((), ((), b1007bb)), l501007, ())
noncomputable def f24L_1000012 (n m : Nat) (x19 : List (Int × ((Int × ByteArray) × (Int × Int)))) (x20 : Int) (x21 : Int) (b1007bb : List Unit) (l501007 : List Int) : Option (ByteArray × Int × Int) := c24L.LL Tryd.prog (T24L n) m 1000012 ((), x19, x20, x21) (((), ((), b1007bb)), l501007, ())
theorem f24L_12_zero (n : Nat) (x19 : List (Int × ((Int × ByteArray) × (Int × Int)))) (x20 : Int) (x21 : Int) (b1007bb : List Unit) (l501007 : List Int) : f24L_12 n 0 x19 x20 x21 b1007bb l501007 = none := rfl
theorem f24L_12_eq (n m : Nat) (x19 : List (Int × ((Int × ByteArray) × (Int × Int)))) (x20 : Int) (x21 : Int) (b1007bb : List Unit) (l501007 : List Int) : f24L_12 n (m + 1) x19 x20 x21 b1007bb l501007 =
  bif decide (x21 < x20) then
   bif decide ((0 : Int) ≤ x21 ∧ x21 < ↑x19.length) then
    (f40 n (x19.getD x21.toNat ((0 : Int), ((0 : Int), ByteArray.empty), (0 : Int), (0 : Int))).snd.fst.snd s24Lx0).bind fun r1 =>
    bif r1 then
     some (ByteArray.empty, x21, (212 : Int))
    else
     (f42L n (x19.getD x21.toNat ((0 : Int), ((0 : Int), ByteArray.empty), (0 : Int), (0 : Int)))).bind fun r2 =>
     bif decide ((↑(ByteArray.size r2 + (1 : Nat)) : Int) > Int.ofNat (9223372036854775807 : Nat)) then
      none
     else
      (f41z n (r2 ++ s24Lx0) b1007bb l501007).bind fun r3 =>
      f24L_1000012 n m x19 x20 (Go.IntKind.i64.wrap (x21 + (1 : Int))) r3.snd.fst.snd.snd r3.snd.snd.fst
   else
    none
  else
   (f43z n b1007bb l501007).bind fun r4 =>
   some (r4.fst, (0 : Int), (0 : Int)) := by kernel_rfl
theorem f24L_1000012_zero (n : Nat) (x19 : List (Int × ((Int × ByteArray) × (Int × Int)))) (x20 : Int) (x21 : Int) (b1007bb : List Unit) (l501007 : List Int) : f24L_1000012 n 0 x19 x20 x21 b1007bb l501007 = none := rfl
theorem f24L_1000012_eq (n m : Nat) (x19 : List (Int × ((Int × ByteArray) × (Int × Int)))) (x20 : Int) (x21 : Int) (b1007bb : List Unit) (l501007 : List Int) : f24L_1000012 n (m + 1) x19 x20 x21 b1007bb l501007 =
  bif decide (x21 < x20) then
   bif decide ((0 : Int) ≤ x21 ∧ x21 < ↑x19.length) then
    (f40 n (x19.getD x21.toNat ((0 : Int), ((0 : Int), ByteArray.empty), (0 : Int), (0 : Int))).snd.fst.snd s24Lx0).bind fun r1 =>
    bif r1 then
     some (ByteArray.empty, x21, (212 : Int))
    else
     (f42L n (x19.getD x21.toNat ((0 : Int), ((0 : Int), ByteArray.empty), (0 : Int), (0 : Int)))).bind fun r2 =>
     bif decide ((↑(ByteArray.size r2 + (1 : Nat)) : Int) > Int.ofNat (9223372036854775807 : Nat)) then
      none
     else
      (f41u n (r2 ++ s24Lx0) b1007bb l501007).bind fun r3 =>
      f24L_1000012 n m x19 x20 (Go.IntKind.i64.wrap (x21 + (1 : Int))) r3.snd.fst.snd.snd r3.snd.snd.fst
   else
    none
  else
   (f43u n b1007bb l501007).bind fun r4 =>
   some (r4.fst, (0 : Int), (0 : Int)) := by kernel_rfl
theorem f24L_eq (n : Nat) (l : List (Int × ((Int × ByteArray) × (Int × Int)))) : f24L n l =
  (f23 n l).bind fun r1 =>
  bif r1.snd != (0 : Int) then
   some (ByteArray.empty, r1.fst, r1.snd)
  else
   f24L_12 n n l ↑l.length (0 : Int) [] [] := by kernel_rfl
/- convoy/convoylaw21.ClientTexts -/
noncomputable def c6 : Cfg := ⟨6, Tryd.f6, [(.sl 29 (.agg (.pair (.int .i64) (.pair (.agg (.pair (.int .u16) .str)) (.pair (.int .i64) (.int .i64)))))), .str], [.bool], 7, [], []⟩
noncomputable def T6 (n : Nat) : Tab := ⟨[e23 n, e11 n, e10 n, e24L n, e25 n, e26 n, e27 n, e8 n, e28 n], []⟩
noncomputable def e6 (n : Nat) : Entry := c6.entry Tryd.prog (T6 n) n
theorem ok6 {W0 : World} (hL : Laid W0) (n : Nat) : FnOK Tryd.prog W0 (e6 n) := c6.sound (.cons (ok23 n) (.cons (ok11 n) (.cons (ok10 n) (.cons (ok24L hL n) (.cons (ok25 n) (.cons (ok26 hL n) (.cons (ok27 n) (.cons (ok8 n) (.cons (ok28 n) .nil))))))))) n Tryd.func6 (by kernel_rfl) (by kernel_rfl)
noncomputable def f6 (n : Nat) (l : List (Int × ((Int × ByteArray) × (Int × Int)))) (s : ByteArray) : Option (Bool) := c6.f Tryd.prog (T6 n) n (l, s)
theorem f6_eq (n : Nat) (l : List (Int × ((Int × ByteArray) × (Int × Int)))) (s : ByteArray) : f6 n l s =
  (f23 n l).bind fun r1 =>
  (f11 n l).bind fun r2 =>
  (f10 n r2).bind fun r3 =>
  (f24L n l).bind fun r4 =>
  (f11 n l).bind fun r5 =>
  (f25 n r5).bind fun r6 =>
  (f26 n s).bind fun r7 =>
  (f27 n s).bind fun r8 =>
  (f8 n).bind fun r9 =>
  bif !r9 then
   some false
  else
   bif r1.fst != r3.fst then
    some false
   else
    bif r1.snd != r3.snd then
     some false
    else
     bif !ByteArray.toList r4.fst == ByteArray.toList r6.fst then
      some false
     else
      bif r4.snd.fst != r6.snd.fst then
       some false
      else
       bif r4.snd.snd != r6.snd.snd then
        some false
       else
        (f11 n r7.1).bind fun r10 =>
        (f28 n r10 r8.1).bind fun r11 =>
        bif !r11 then
         some false
        else
         bif r7.snd.fst != r8.snd.fst then
          some false
         else
          bif r7.snd.snd != r8.snd.snd then
           some false
          else
           (f26 n r4.fst).bind fun r12 =>
           bif r4.snd.snd != (0 : Int) then
            some true
           else
            bif r12.snd.snd == (0 : Int) then
             (f11 n r12.1).bind fun r13 =>
             (f11 n l).bind fun r14 =>
             (f28 n r13 r14).bind fun r15 =>
             some r15
            else
             some false := by kernel_rfl
end Go.Proofs.YthpcpofcadpijaaDoor
