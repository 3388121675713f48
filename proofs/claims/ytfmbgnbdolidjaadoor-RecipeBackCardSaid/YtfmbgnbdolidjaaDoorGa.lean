/- What functions compute: printed, and checked by the kernel. -/
import Derived.Test.YtfmbgnbdolidjaaDoorRfT
import Derived.Test.YtfmbgnbdolidjaaDoorProg
import Derived.Test.YtfmbgnbdolidjaaDoorChecked
namespace Go.Proofs.YtfmbgnbdolidjaaDoor
open Go.Rf
/- convoy/tick.Is -/
noncomputable def c45 : Cfg := ⟨45, Tryd.f45, [(.int .i64)], [.bool], 4, [], []⟩
noncomputable def T45 (_ : Nat) : Tab := ⟨[], []⟩
noncomputable def e45 (n : Nat) : Entry := c45.entry Tryd.prog (T45 n) n
theorem ok45 {W0 : World} (n : Nat) : FnOK Tryd.prog W0 (e45 n) := c45.sound .nil n Tryd.func45 (by kernel_rfl) (by kernel_rfl)
noncomputable def f45 (n : Nat) (t : Int) : Option (Bool) := c45.f Tryd.prog (T45 n) n t
theorem f45_eq (n : Nat) (t : Int) : f45 n t =
  bif decide (t ≥ (0 : Int)) then
   some (decide (t ≤ (4611686018427387904 : Int)))
  else
   some false := by kernel_rfl
/- convoy/recipe.may -/
noncomputable def c33 : Cfg := ⟨33, Tryd.f33, [(.agg (.pair (.int .i64) (.pair (.int .i64) (.int .i64))))], [.bool], 7, [], []⟩
noncomputable def T33 (n : Nat) : Tab := ⟨[e45 n], []⟩
noncomputable def e33 (n : Nat) : Entry := c33.entry Tryd.prog (T33 n) n
theorem ok33 {W0 : World} (n : Nat) : FnOK Tryd.prog W0 (e33 n) := c33.sound (.cons (ok45 n) .nil) n Tryd.func33 (by kernel_rfl) (by kernel_rfl)
noncomputable def f33 (n : Nat) (s : (Int × (Int × Int))) : Option (Bool) := c33.f Tryd.prog (T33 n) n s
theorem f33_eq (n : Nat) (s : (Int × (Int × Int))) : f33 n s =
  bif s.fst == (1 : Int) then
   bif s.fst == (1 : Int) then
    some (s.snd.snd == (0 : Int))
   else
    bif s.fst == (2 : Int) then
     bif s.snd.snd == (0 : Int) then
      bif decide (s.snd.fst ≥ (-63 : Int)) then
       some (decide (s.snd.fst ≤ (63 : Int)))
      else
       some false
     else
      some false
    else
     bif s.fst == (5 : Int) then
      bif s.snd.snd == (0 : Int) then
       bif decide (s.snd.fst ≥ (0 : Int)) then
        some (decide (s.snd.fst ≤ (63 : Int)))
       else
        some false
      else
       some false
     else
      bif s.fst == (6 : Int) then
       bif s.snd.snd == (0 : Int) then
        bif decide (s.snd.fst ≥ (0 : Int)) then
         some (decide (s.snd.fst < (256 : Int)))
        else
         some false
       else
        some false
      else
       bif s.fst == (7 : Int) then
        bif s.snd.snd == (0 : Int) then
         (f45 n s.snd.fst).bind fun r1 =>
         some r1
        else
         some false
       else
        bif s.fst == (9 : Int) then
         bif decide (s.snd.fst ≥ (0 : Int)) then
          bif decide (s.snd.fst ≤ (3 : Int)) then
           bif decide (s.snd.snd ≥ (1 : Int)) then
            some (decide (s.snd.snd ≤ (256 : Int)))
           else
            some false
          else
           some false
         else
          some false
        else
         bif s.fst == (3 : Int) then
          bif s.fst == (3 : Int) then
           bif s.snd.fst == (0 : Int) then
            some (s.snd.snd == (0 : Int))
           else
            some false
          else
           some false
         else
          bif s.fst == (4 : Int) then
           bif s.fst == (4 : Int) then
            bif s.snd.fst == (0 : Int) then
             some (s.snd.snd == (0 : Int))
            else
             some false
           else
            some false
          else
           bif s.fst == (8 : Int) then
            bif s.fst == (8 : Int) then
             bif s.snd.fst == (0 : Int) then
              some (s.snd.snd == (0 : Int))
             else
              some false
            else
             some false
           else
            bif s.fst == (10 : Int) then
             bif s.snd.fst == (0 : Int) then
              some (s.snd.snd == (0 : Int))
             else
              some false
            else
             some false
  else
   bif s.fst == (11 : Int) then
    bif s.fst == (11 : Int) then
     some (s.snd.snd == (0 : Int))
    else
     bif s.fst == (2 : Int) then
      bif s.snd.snd == (0 : Int) then
       bif decide (s.snd.fst ≥ (-63 : Int)) then
        some (decide (s.snd.fst ≤ (63 : Int)))
       else
        some false
      else
       some false
     else
      bif s.fst == (5 : Int) then
       bif s.snd.snd == (0 : Int) then
        bif decide (s.snd.fst ≥ (0 : Int)) then
         some (decide (s.snd.fst ≤ (63 : Int)))
        else
         some false
       else
        some false
      else
       bif s.fst == (6 : Int) then
        bif s.snd.snd == (0 : Int) then
         bif decide (s.snd.fst ≥ (0 : Int)) then
          some (decide (s.snd.fst < (256 : Int)))
         else
          some false
        else
         some false
       else
        bif s.fst == (7 : Int) then
         bif s.snd.snd == (0 : Int) then
          (f45 n s.snd.fst).bind fun r2 =>
          some r2
         else
          some false
        else
         bif s.fst == (9 : Int) then
          bif decide (s.snd.fst ≥ (0 : Int)) then
           bif decide (s.snd.fst ≤ (3 : Int)) then
            bif decide (s.snd.snd ≥ (1 : Int)) then
             some (decide (s.snd.snd ≤ (256 : Int)))
            else
             some false
           else
            some false
          else
           some false
         else
          bif s.fst == (3 : Int) then
           bif s.fst == (3 : Int) then
            bif s.snd.fst == (0 : Int) then
             some (s.snd.snd == (0 : Int))
            else
             some false
           else
            some false
          else
           bif s.fst == (4 : Int) then
            bif s.fst == (4 : Int) then
             bif s.snd.fst == (0 : Int) then
              some (s.snd.snd == (0 : Int))
             else
              some false
            else
             some false
           else
            bif s.fst == (8 : Int) then
             bif s.fst == (8 : Int) then
              bif s.snd.fst == (0 : Int) then
               some (s.snd.snd == (0 : Int))
              else
               some false
             else
              some false
            else
             bif s.fst == (10 : Int) then
              bif s.snd.fst == (0 : Int) then
               some (s.snd.snd == (0 : Int))
              else
               some false
             else
              some false
   else
    bif s.fst == (12 : Int) then
     some (s.snd.snd == (0 : Int))
    else
     bif s.fst == (2 : Int) then
      bif s.snd.snd == (0 : Int) then
       bif decide (s.snd.fst ≥ (-63 : Int)) then
        some (decide (s.snd.fst ≤ (63 : Int)))
       else
        some false
      else
       some false
     else
      bif s.fst == (5 : Int) then
       bif s.snd.snd == (0 : Int) then
        bif decide (s.snd.fst ≥ (0 : Int)) then
         some (decide (s.snd.fst ≤ (63 : Int)))
        else
         some false
       else
        some false
      else
       bif s.fst == (6 : Int) then
        bif s.snd.snd == (0 : Int) then
         bif decide (s.snd.fst ≥ (0 : Int)) then
          some (decide (s.snd.fst < (256 : Int)))
         else
          some false
        else
         some false
       else
        bif s.fst == (7 : Int) then
         bif s.snd.snd == (0 : Int) then
          (f45 n s.snd.fst).bind fun r3 =>
          some r3
         else
          some false
        else
         bif s.fst == (9 : Int) then
          bif decide (s.snd.fst ≥ (0 : Int)) then
           bif decide (s.snd.fst ≤ (3 : Int)) then
            bif decide (s.snd.snd ≥ (1 : Int)) then
             some (decide (s.snd.snd ≤ (256 : Int)))
            else
             some false
           else
            some false
          else
           some false
         else
          bif s.fst == (3 : Int) then
           bif s.fst == (3 : Int) then
            bif s.snd.fst == (0 : Int) then
             some (s.snd.snd == (0 : Int))
            else
             some false
           else
            some false
          else
           bif s.fst == (4 : Int) then
            bif s.fst == (4 : Int) then
             bif s.snd.fst == (0 : Int) then
              some (s.snd.snd == (0 : Int))
             else
              some false
            else
             some false
           else
            bif s.fst == (8 : Int) then
             bif s.fst == (8 : Int) then
              bif s.snd.fst == (0 : Int) then
               some (s.snd.snd == (0 : Int))
              else
               some false
             else
              some false
            else
             bif s.fst == (10 : Int) then
              bif s.snd.fst == (0 : Int) then
               some (s.snd.snd == (0 : Int))
              else
               some false
             else
              some false := by kernel_rfl
/- convoy/recipe.Check$1 -/
noncomputable def c32 : Cfg := ⟨32, Tryd.f32, [(.agg (.pair (.int .i64) (.pair (.int .i64) (.int .i64))))], [.bool], 3, [], []⟩
noncomputable def T32 (n : Nat) : Tab := ⟨[e33 n], []⟩
noncomputable def e32 (n : Nat) : Entry := c32.entry Tryd.prog (T32 n) n
theorem ok32 {W0 : World} (n : Nat) : FnOK Tryd.prog W0 (e32 n) := c32.sound (.cons (ok33 n) .nil) n Tryd.func32 (by kernel_rfl) (by kernel_rfl)
noncomputable def f32 (n : Nat) (s : (Int × (Int × Int))) : Option (Bool) := c32.f Tryd.prog (T32 n) n s
theorem f32_eq (n : Nat) (s : (Int × (Int × Int))) : f32 n s =
  (f33 n s).bind fun r1 =>
  some !r1 := by kernel_rfl
/- slices.IndexFunc[[]convoy/api.Step,convoy/api.Step] -/
noncomputable def c31a : Cfg := ⟨31, Tryd.f31, [(.sl 55 (.agg (.pair (.int .i64) (.pair (.int .i64) (.int .i64))))), (.fn 32)], [(.int .i64)], 5, [], [(4, ⟨19, 5, [(0, (.val (.sl 55 (.agg (.pair (.int .i64) (.pair (.int .i64) (.int .i64))))))), (1, (.val (.fn 32))), (7, (.val (.int .i64))), (8, (.val (.int .i64)))], []⟩)]⟩
noncomputable def T31a (n : Nat) : Tab := ⟨[e32 n], []⟩
noncomputable def e31a (n : Nat) : Entry := c31a.entry Tryd.prog (T31a n) n
theorem ok31a {W0 : World} (n : Nat) : FnOK Tryd.prog W0 (e31a n) := c31a.sound (.cons (ok32 n) .nil) n Tryd.func31 (by kernel_rfl) (by kernel_rfl)
noncomputable def f31a (n : Nat) (s : List (Int × (Int × Int))) (f : Unit) : Option (Int) := c31a.f Tryd.prog (T31a n) n (s, f)
noncomputable def f31a_4 (n m : Nat) (s : List (Int × (Int × Int))) (f : Unit) (x7 : Int) (x8 : Int) : Option (Int) := c31a.LL Tryd.prog (T31a n) m 4 (s, f, x7, x8) ()
theorem f31a_4_zero (n : Nat) (s : List (Int × (Int × Int))) (f : Unit) (x7 : Int) (x8 : Int) : f31a_4 n 0 s f x7 x8 = none := rfl
theorem f31a_4_eq (n m : Nat) (s : List (Int × (Int × Int))) (f : Unit) (x7 : Int) (x8 : Int) : f31a_4 n (m + 1) s f x7 x8 =
  bif decide (x8 < x7) then
   bif decide ((0 : Int) ≤ x8 ∧ x8 < ↑s.length) then
    (f32 n (s.getD x8.toNat ((0 : Int), (0 : Int), (0 : Int)))).bind fun r1 =>
    bif r1 then
     some x8
    else
     f31a_4 n m s () x7 (Go.IntKind.i64.wrap (x8 + (1 : Int)))
   else
    none
  else
   some (-1 : Int) := by kernel_rfl
theorem f31a_eq (n : Nat) (s : List (Int × (Int × Int))) (f : Unit) : f31a n s f =
  f31a_4 n n s () ↑s.length (0 : Int) := by kernel_rfl
/- convoy/recipe.Check -/
noncomputable def c16 : Cfg := ⟨16, Tryd.f16, [(.sl 55 (.agg (.pair (.int .i64) (.pair (.int .i64) (.int .i64)))))], [(.int .i64), (.int .i64)], 4, [], []⟩
noncomputable def T16 (n : Nat) : Tab := ⟨[e31a n, e32 n], []⟩
noncomputable def e16 (n : Nat) : Entry := c16.entry Tryd.prog (T16 n) n
theorem ok16 {W0 : World} (n : Nat) : FnOK Tryd.prog W0 (e16 n) := c16.sound (.cons (ok31a n) (.cons (ok32 n) .nil)) n Tryd.func16 (by kernel_rfl) (by kernel_rfl)
noncomputable def f16 (n : Nat) (l : List (Int × (Int × Int))) : Option (Int × Int) := c16.f Tryd.prog (T16 n) n l
theorem f16_eq (n : Nat) (l : List (Int × (Int × Int))) : f16 n l =
  bif decide ((↑l.length : Int) > (256 : Int)) then
   some ((256 : Int), (3 : Int))
  else
   (f31a n l ()).bind fun r1 =>
   bif decide (r1 ≥ (0 : Int)) then
    some (r1, (80 : Int))
   else
    some ((0 : Int), (0 : Int)) := by kernel_rfl
/- convoy/recipe.failed -/
noncomputable def c42 : Cfg := ⟨42, Tryd.f42, [(.int .i64), (.int .i64), (.agg (.pair (.agg (.pair (.int .u16) .str)) (.pair (.int .i64) .bool)))], [(.agg (.pair (.int .i64) (.agg (.pair (.int .i64) (.pair (.int .i64) (.int .i64))))))], 4, [], []⟩
noncomputable def T42 (_ : Nat) : Tab := ⟨[], []⟩
noncomputable def e42 (n : Nat) : Entry := c42.entry Tryd.prog (T42 n) n
theorem ok42 {W0 : World} (n : Nat) : FnOK Tryd.prog W0 (e42 n) := c42.sound .nil n Tryd.func42 (by kernel_rfl) (by kernel_rfl)
noncomputable def f42 (n : Nat) (kind : Int) (code : Int) (x : ((Int × ByteArray) × (Int × Bool))) : Option ((Int × (Int × (Int × Int)))) := c42.f Tryd.prog (T42 n) n (kind, code, x)
theorem f42_eq (n : Nat) (kind : Int) (code : Int) (x : ((Int × ByteArray) × (Int × Bool))) : f42 n kind code x =
  some (((0 : Int), kind, code, x.snd.fst)) := by kernel_rfl
/- convoy/recipe.skips -/
noncomputable def c43 : Cfg := ⟨43, Tryd.f43, [(.int .i64), (.int .i64), (.agg (.pair (.agg (.pair (.int .u16) .str)) (.pair (.int .i64) .bool)))], [.bool], 5, [], []⟩
noncomputable def T43 (_ : Nat) : Tab := ⟨[], []⟩
noncomputable def e43 (n : Nat) : Entry := c43.entry Tryd.prog (T43 n) n
theorem ok43 {W0 : World} (n : Nat) : FnOK Tryd.prog W0 (e43 n) := c43.sound .nil n Tryd.func43 (by kernel_rfl) (by kernel_rfl)
noncomputable def f43 (n : Nat) (how : Int) (a1 : Int) (x : ((Int × ByteArray) × (Int × Bool))) : Option (Bool) := c43.f Tryd.prog (T43 n) n (how, a1, x)
theorem f43_eq (n : Nat) (how : Int) (a1 : Int) (x : ((Int × ByteArray) × (Int × Bool))) : f43 n how a1 x =
  bif how == (0 : Int) then
   some (a1 == (0 : Int))
  else
   bif how == (1 : Int) then
    some (decide (a1 < (0 : Int)))
   else
    bif how == (2 : Int) then
     some (Go.IntKind.i64.wrap ↑(BitVec.ofInt (64 : Nat) a1 &&& BitVec.ofInt (64 : Nat) (1 : Int)).toNat == (1 : Int))
    else
     some x.snd.snd := by kernel_rfl
/- convoy/recipe.shifted -/
noncomputable def c56 : Cfg := ⟨56, Tryd.f56, [(.int .i64), (.int .i64)], [(.int .i64)], 4, [], []⟩
noncomputable def T56 (_ : Nat) : Tab := ⟨[], []⟩
noncomputable def e56 (n : Nat) : Entry := c56.entry Tryd.prog (T56 n) n
theorem ok56 {W0 : World} (n : Nat) : FnOK Tryd.prog W0 (e56 n) := c56.sound .nil n Tryd.func56 (by kernel_rfl) (by kernel_rfl)
noncomputable def f56 (n : Nat) (a0 : Int) (a1 : Int) : Option (Int) := c56.f Tryd.prog (T56 n) n (a0, a1)
theorem f56_eq (n : Nat) (a0 : Int) (a1 : Int) : f56 n a0 a1 =
  bif decide (a1 < (0 : Int)) then
   bif decide (Go.IntKind.u64.wrap (Go.IntKind.i64.wrap ((0 : Int) - a1)) < (0 : Int)) then
    none
   else
    some (a0.fdiv ((2 : Int) ^ Min.min (Go.IntKind.u64.wrap (Go.IntKind.i64.wrap ((0 : Int) - a1))).toNat (64 : Nat)))
  else
   bif decide (Go.IntKind.u64.wrap a1 < (0 : Int)) then
    none
   else
    some (Go.IntKind.i64.wrap (a0 * (2 : Int) ^ Min.min (Go.IntKind.u64.wrap a1).toNat (64 : Nat))) := by kernel_rfl
/- convoy/key.told -/
noncomputable def c72 : Cfg := ⟨72, Tryd.f72, [(.agg (.pair (.int .u16) .str))], [.str], 5, [], []⟩
noncomputable def T72 (_ : Nat) : Tab := ⟨[], []⟩
noncomputable def e72 (n : Nat) : Entry := c72.entry Tryd.prog (T72 n) n
theorem ok72 {W0 : World} (n : Nat) : FnOK Tryd.prog W0 (e72 n) := c72.sound .nil n Tryd.func72 (by kernel_rfl) (by kernel_rfl)
noncomputable def f72 (n : Nat) (k : (Int × ByteArray)) : Option (ByteArray) := c72.f Tryd.prog (T72 n) n k
theorem f72_eq (n : Nat) (k : (Int × ByteArray)) : f72 n k =
  bif decide ((↑((Go.Rf.mkBytes [Go.IntKind.u8.wrap k.fst, Go.IntKind.u8.wrap (Int.fdiv k.fst ((2 : Int) ^ (8 : Nat))), Go.IntKind.u8.wrap ↑(ByteArray.size k.snd)]).size + ByteArray.size k.snd) : Int) > Int.ofNat (9223372036854775807 : Nat)) then
   none
  else
   some (Go.Rf.mkBytes [Go.IntKind.u8.wrap k.fst, Go.IntKind.u8.wrap (Int.fdiv k.fst ((2 : Int) ^ (8 : Nat))), Go.IntKind.u8.wrap ↑(ByteArray.size k.snd)] ++ k.snd) := by kernel_rfl
/- convoy/key.Hash -/
noncomputable def c57 : Cfg := ⟨57, Tryd.f57, [(.agg (.pair (.int .u16) .str))], [(.int .u64)], 5, [], [(8, ⟨31, 5, [(3, (.val (.int .u64))), (4, (.val .str)), (9, (.val (.int .i64))), (10, (.val (.int .i64)))], []⟩)]⟩
noncomputable def T57 (n : Nat) : Tab := ⟨[e72 n], []⟩
noncomputable def e57 (n : Nat) : Entry := c57.entry Tryd.prog (T57 n) n
theorem ok57 {W0 : World} (n : Nat) : FnOK Tryd.prog W0 (e57 n) := c57.sound (.cons (ok72 n) .nil) n Tryd.func57 (by kernel_rfl) (by kernel_rfl)
noncomputable def f57 (n : Nat) (k : (Int × ByteArray)) : Option (Int) := c57.f Tryd.prog (T57 n) n k
noncomputable def f57_8 (n m : Nat) (h : Int) (s : ByteArray) (x9 : Int) (x10 : Int) : Option (Int) := c57.LL Tryd.prog (T57 n) m 8 (h, s, x9, x10) ()
theorem f57_8_zero (n : Nat) (h : Int) (s : ByteArray) (x9 : Int) (x10 : Int) : f57_8 n 0 h s x9 x10 = none := rfl
theorem f57_8_eq (n m : Nat) (h : Int) (s : ByteArray) (x9 : Int) (x10 : Int) : f57_8 n (m + 1) h s x9 x10 =
  bif decide (x10 < x9) then
   bif decide ((0 : Int) ≤ x10 ∧ x10 < ↑s.size) then
    f57_8 n m (Go.IntKind.u64.wrap (Go.IntKind.u64.wrap ↑(BitVec.ofInt (64 : Nat) h ^^^ BitVec.ofInt (64 : Nat) (Go.IntKind.u64.wrap (Go.Rf.byteAt s x10))).toNat * (1099511628211 : Int))) s x9 (Go.IntKind.i64.wrap (x10 + (1 : Int)))
   else
    none
  else
   some (Go.IntKind.u64.wrap ↑(BitVec.ofInt (64 : Nat) (Go.IntKind.u64.wrap (Go.IntKind.u64.wrap ↑(BitVec.ofInt (64 : Nat) h ^^^ BitVec.ofInt (64 : Nat) (h.fdiv ((2 : Int) ^ (32 : Nat)))).toNat * (11400714819323198485 : Int))) ^^^ BitVec.ofInt (64 : Nat) ((Go.IntKind.u64.wrap (Go.IntKind.u64.wrap ↑(BitVec.ofInt (64 : Nat) h ^^^ BitVec.ofInt (64 : Nat) (h.fdiv ((2 : Int) ^ (32 : Nat)))).toNat * (11400714819323198485 : Int))).fdiv ((2 : Int) ^ (29 : Nat)))).toNat) := by kernel_rfl
theorem f57_eq (n : Nat) (k : (Int × ByteArray)) : f57 n k =
  (f72 n k).bind fun r1 =>
  f57_8 n n (14695981039346656037 : Int) r1 (↑(ByteArray.size r1)) (0 : Int) := by kernel_rfl
/- math/bits.RotateLeft64 -/
noncomputable def c58 : Cfg := ⟨58, Tryd.f58, [(.int .u64), (.int .i64)], [(.int .u64)], 5, [], []⟩
noncomputable def T58 (_ : Nat) : Tab := ⟨[], []⟩
noncomputable def e58 (n : Nat) : Entry := c58.entry Tryd.prog (T58 n) n
theorem ok58 {W0 : World} (n : Nat) : FnOK Tryd.prog W0 (e58 n) := c58.sound .nil n Tryd.func58 (by kernel_rfl) (by kernel_rfl)
noncomputable def f58 (n : Nat) (x : Int) (k : Int) : Option (Int) := c58.f Tryd.prog (T58 n) n (x, k)
theorem f58_eq (n : Nat) (x : Int) (k : Int) : f58 n x k =
  bif decide (Go.IntKind.u64.wrap ((64 : Int) - Go.IntKind.u64.wrap ↑(BitVec.ofInt (64 : Nat) (Go.IntKind.u64.wrap k) &&& BitVec.ofInt (64 : Nat) (63 : Int)).toNat) < (0 : Int)) then
   none
  else
   some (Go.IntKind.u64.wrap ↑(BitVec.ofInt (64 : Nat) (Go.IntKind.u64.wrap (x * (2 : Int) ^ Min.min (Go.IntKind.u64.wrap ↑(BitVec.ofInt (64 : Nat) (Go.IntKind.u64.wrap k) &&& BitVec.ofInt (64 : Nat) (63 : Int)).toNat).toNat (64 : Nat))) ||| BitVec.ofInt (64 : Nat) (x.fdiv ((2 : Int) ^ Min.min (Go.IntKind.u64.wrap ((64 : Int) - Go.IntKind.u64.wrap ↑(BitVec.ofInt (64 : Nat) (Go.IntKind.u64.wrap k) &&& BitVec.ofInt (64 : Nat) (63 : Int)).toNat)).toNat (64 : Nat)))).toNat) := by kernel_rfl
/- convoy/recipe.worked -/
noncomputable def c44 : Cfg := ⟨44, Tryd.f44, [(.agg (.pair (.int .i64) (.pair (.int .i64) (.int .i64)))), (.int .i64), (.agg (.pair (.agg (.pair (.int .u16) .str)) (.pair (.int .i64) .bool)))], [(.int .i64)], 6, [], []⟩
noncomputable def T44 (n : Nat) : Tab := ⟨[e56 n, e57 n, e58 n], []⟩
noncomputable def e44 (n : Nat) : Entry := c44.entry Tryd.prog (T44 n) n
theorem ok44 {W0 : World} (n : Nat) : FnOK Tryd.prog W0 (e44 n) := c44.sound (.cons (ok56 n) (.cons (ok57 n) (.cons (ok58 n) .nil))) n Tryd.func44 (by kernel_rfl) (by kernel_rfl)
noncomputable def f44 (n : Nat) (s : (Int × (Int × Int))) (a1 : Int) (x : ((Int × ByteArray) × (Int × Bool))) : Option (Int) := c44.f Tryd.prog (T44 n) n (s, a1, x)
theorem f44_eq (n : Nat) (s : (Int × (Int × Int))) (a1 : Int) (x : ((Int × ByteArray) × (Int × Bool))) : f44 n s a1 x =
  bif s.fst == (1 : Int) then
   some (Go.IntKind.i64.wrap (a1 + s.snd.fst))
  else
   bif s.fst == (2 : Int) then
    (f56 n a1 s.snd.fst).bind fun r1 =>
    some r1
   else
    bif s.fst == (3 : Int) then
     (f57 n x.fst).bind fun r2 =>
     some (Go.IntKind.i64.wrap ↑(BitVec.ofInt (64 : Nat) a1 ^^^ BitVec.ofInt (64 : Nat) (Go.IntKind.i64.wrap r2)).toNat)
    else
     bif s.fst == (4 : Int) then
      some (Go.IntKind.i64.wrap (a1 + x.snd.fst))
     else
      bif s.fst == (5 : Int) then
       (f58 n (Go.IntKind.u64.wrap a1) s.snd.fst).bind fun r3 =>
       some (Go.IntKind.i64.wrap r3)
      else
       some a1 := by kernel_rfl
/- convoy/recipe.one -/
noncomputable def c29 : Cfg := ⟨29, Tryd.f29, [(.sl 55 (.agg (.pair (.int .i64) (.pair (.int .i64) (.int .i64))))), (.agg (.pair (.int .i64) (.pair (.int .i64) (.pair (.int .i64) (.int .i64))))), (.agg (.pair (.agg (.pair (.int .u16) .str)) (.pair (.int .i64) .bool)))], [(.agg (.pair (.int .i64) (.pair (.int .i64) (.pair (.int .i64) (.int .i64))))), (.agg (.pair (.int .i64) (.agg (.pair (.int .i64) (.pair (.int .i64) (.int .i64)))))), .bool], 7, [], []⟩
noncomputable def T29 (n : Nat) : Tab := ⟨[e42 n, e43 n, e44 n], []⟩
noncomputable def e29 (n : Nat) : Entry := c29.entry Tryd.prog (T29 n) n
theorem ok29 {W0 : World} (n : Nat) : FnOK Tryd.prog W0 (e29 n) := c29.sound (.cons (ok42 n) (.cons (ok43 n) (.cons (ok44 n) .nil))) n Tryd.func29 (by kernel_rfl) (by kernel_rfl)
noncomputable def f29 (n : Nat) (l : List (Int × (Int × Int))) (c : (Int × (Int × (Int × Int)))) (x : ((Int × ByteArray) × (Int × Bool))) : Option ((Int × (Int × (Int × Int))) × (Int × (Int × (Int × Int))) × Bool) := c29.f Tryd.prog (T29 n) n (l, c, x)
theorem f29_eq (n : Nat) (l : List (Int × (Int × Int))) (c : (Int × (Int × (Int × Int)))) (x : ((Int × ByteArray) × (Int × Bool))) : f29 n l c x =
  bif c.fst == ↑l.length then
   some (((0 : Int), (0 : Int), (0 : Int), (0 : Int)), (c.snd.fst, (0 : Int), (0 : Int), (0 : Int)), true)
  else
   bif decide ((0 : Int) ≤ c.fst ∧ c.fst < ↑l.length) then
    bif (l.getD (Int.toNat c.fst) ((0 : Int), (0 : Int), (0 : Int))).fst == (10 : Int) then
     some (((0 : Int), (0 : Int), (0 : Int), (0 : Int)), (c.snd.fst, (0 : Int), (0 : Int), (0 : Int)), true)
    else
     bif (l.getD (Int.toNat c.fst) ((0 : Int), (0 : Int), (0 : Int))).fst == (11 : Int) then
      (f42 n (1 : Int) (l.getD (Int.toNat c.fst) ((0 : Int), (0 : Int), (0 : Int))).snd.fst x).bind fun r1 =>
      some (((0 : Int), (0 : Int), (0 : Int), (0 : Int)), r1, true)
     else
      bif (l.getD (Int.toNat c.fst) ((0 : Int), (0 : Int), (0 : Int))).fst == (12 : Int) then
       (f42 n (2 : Int) (l.getD (Int.toNat c.fst) ((0 : Int), (0 : Int), (0 : Int))).snd.fst x).bind fun r2 =>
       some (((0 : Int), (0 : Int), (0 : Int), (0 : Int)), r2, true)
      else
       bif (l.getD (Int.toNat c.fst) ((0 : Int), (0 : Int), (0 : Int))).fst == (8 : Int) then
        bif x.snd.snd then
         (f42 n (5 : Int) (0 : Int) x).bind fun r3 =>
         some (((0 : Int), (0 : Int), (0 : Int), (0 : Int)), r3, true)
        else
         some ((Go.IntKind.i64.wrap (c.fst + (1 : Int)), c.snd), ((0 : Int), (0 : Int), (0 : Int), (0 : Int)), false)
       else
        bif (l.getD (Int.toNat c.fst) ((0 : Int), (0 : Int), (0 : Int))).fst == (9 : Int) then
         (f43 n (l.getD (Int.toNat c.fst) ((0 : Int), (0 : Int), (0 : Int))).snd.fst c.snd.fst x).bind fun r4 =>
         bif r4 then
          some ((if Go.IntKind.i64.wrap (Go.IntKind.i64.wrap (c.fst + (1 : Int)) + (l.getD (Int.toNat c.fst) ((0 : Int), (0 : Int), (0 : Int))).snd.snd) < ↑l.length then Go.IntKind.i64.wrap (Go.IntKind.i64.wrap (c.fst + (1 : Int)) + (l.getD (Int.toNat c.fst) ((0 : Int), (0 : Int), (0 : Int))).snd.snd) else ↑l.length, c.snd), ((0 : Int), (0 : Int), (0 : Int), (0 : Int)), false)
         else
          some ((Go.IntKind.i64.wrap (c.fst + (1 : Int)), c.snd), ((0 : Int), (0 : Int), (0 : Int), (0 : Int)), false)
        else
         bif (l.getD (Int.toNat c.fst) ((0 : Int), (0 : Int), (0 : Int))).fst == (6 : Int) then
          some ((Go.IntKind.i64.wrap (c.fst + (1 : Int)), c.snd.fst, (1 : Int), (l.getD (Int.toNat c.fst) ((0 : Int), (0 : Int), (0 : Int))).snd.fst), ((0 : Int), (0 : Int), (0 : Int), (0 : Int)), false)
         else
          bif (l.getD (Int.toNat c.fst) ((0 : Int), (0 : Int), (0 : Int))).fst == (7 : Int) then
           some ((Go.IntKind.i64.wrap (c.fst + (1 : Int)), c.snd.fst, (2 : Int), (l.getD (Int.toNat c.fst) ((0 : Int), (0 : Int), (0 : Int))).snd.fst), ((0 : Int), (0 : Int), (0 : Int), (0 : Int)), false)
          else
           (f44 n (l.getD (Int.toNat c.fst) ((0 : Int), (0 : Int), (0 : Int))) c.snd.fst x).bind fun r5 =>
           some ((Go.IntKind.i64.wrap (c.fst + (1 : Int)), r5, c.snd.snd), ((0 : Int), (0 : Int), (0 : Int), (0 : Int)), false)
   else
    none := by kernel_rfl
/- convoy/tick.After -/
noncomputable def c30 : Cfg := ⟨30, Tryd.f30, [(.int .i64), (.int .i64)], [(.int .i64), .bool], 5, [], []⟩
noncomputable def T30 (n : Nat) : Tab := ⟨[e45 n], []⟩
noncomputable def e30 (n : Nat) : Entry := c30.entry Tryd.prog (T30 n) n
theorem ok30 {W0 : World} (n : Nat) : FnOK Tryd.prog W0 (e30 n) := c30.sound (.cons (ok45 n) .nil) n Tryd.func30 (by kernel_rfl) (by kernel_rfl)
noncomputable def f30 (n : Nat) (t : Int) (d : Int) : Option (Int × Bool) := c30.f Tryd.prog (T30 n) n (t, d)
theorem f30_eq (n : Nat) (t : Int) (d : Int) : f30 n t d =
  (f45 n t).bind fun r1 =>
  bif !r1 then
   some ((0 : Int), false)
  else
   bif decide (d < (0 : Int)) then
    some ((0 : Int), false)
   else
    bif decide (d > Go.IntKind.i64.wrap ((4611686018427387904 : Int) - t)) then
     some ((4611686018427387904 : Int), false)
    else
     some (Go.IntKind.i64.wrap (t + d), true) := by kernel_rfl
/- convoy/recipe.Alone -/
noncomputable def c15 : Cfg := ⟨15, Tryd.f15, [(.sl 55 (.agg (.pair (.int .i64) (.pair (.int .i64) (.int .i64))))), (.agg (.pair (.agg (.pair (.int .u16) .str)) (.pair (.int .i64) .bool)))], [(.agg (.pair (.int .i64) (.agg (.pair (.int .i64) (.pair (.int .i64) (.int .i64)))))), (.int .i64), (.int .i64)], 6, [], [(12, ⟨46, 6, [(0, (.val (.sl 55 (.agg (.pair (.int .i64) (.pair (.int .i64) (.int .i64))))))), (3, (.ptr 1003 [])), (4, (.ptr 1004 [])), (9, (.val (.int .i64))), (10, (.ptr 1010 []))], [(1003, .box (.val (.agg (.pair (.agg (.pair (.int .u16) .str)) (.pair (.int .i64) .bool))))), (1004, .box (.val (.agg (.pair (.int .i64) (.agg (.pair (.int .i64) (.pair (.int .i64) (.int .i64)))))))), (1010, .box (.val (.agg (.pair (.int .i64) (.pair (.int .i64) (.pair (.int .i64) (.int .i64)))))))]⟩)]⟩
noncomputable def T15 (n : Nat) : Tab := ⟨[e16 n, e29 n, e30 n], []⟩
noncomputable def e15 (n : Nat) : Entry := c15.entry Tryd.prog (T15 n) n
theorem ok15 {W0 : World} (n : Nat) : FnOK Tryd.prog W0 (e15 n) := c15.sound (.cons (ok16 n) (.cons (ok29 n) (.cons (ok30 n) .nil))) n Tryd.func15 (by kernel_rfl) (by kernel_rfl)
noncomputable def f15 (n : Nat) (l : List (Int × (Int × Int))) (x : ((Int × ByteArray) × (Int × Bool))) : Option ((Int × (Int × (Int × Int))) × Int × Int) := c15.f Tryd.prog (T15 n) n (l, x)
noncomputable def f15_12 (n m : Nat) (l : List (Int × (Int × Int))) (slept : Int) (b1003 : ((Int × ByteArray) × (Int × Bool))) (b1004 : (Int × (Int × (Int × Int)))) (b1010 : (Int × (Int × (Int × Int)))) : Option ((Int × (Int × (Int × Int))) × Int × Int) := c15.LL Tryd.prog (T15 n) m 12 (l, (), (), slept, ()) (b1003, b1004, b1010, ())
theorem f15_12_zero (n : Nat) (l : List (Int × (Int × Int))) (slept : Int) (b1003 : ((Int × ByteArray) × (Int × Bool))) (b1004 : (Int × (Int × (Int × Int)))) (b1010 : (Int × (Int × (Int × Int)))) : f15_12 n 0 l slept b1003 b1004 b1010 = none := rfl
theorem f15_12_eq (n m : Nat) (l : List (Int × (Int × Int))) (slept : Int) (b1003 : ((Int × ByteArray) × (Int × Bool))) (b1004 : (Int × (Int × (Int × Int)))) (b1010 : (Int × (Int × (Int × Int)))) : f15_12 n (m + 1) l slept b1003 b1004 b1010 =
  (f29 n l b1010 b1003).bind fun r1 =>
  bif r1.snd.snd then
   some (r1.snd.fst, slept, (0 : Int))
  else
   bif r1.fst.snd.snd.fst == (2 : Int) then
    (f30 n slept r1.fst.snd.snd.snd).bind fun r2 =>
    f15_12 n m l r2.fst b1003 b1004 ((r1.fst.fst, r1.fst.snd.fst, (0 : Int), (0 : Int)))
   else
    f15_12 n m l slept b1003 b1004 ((r1.fst.fst, r1.fst.snd.fst, (0 : Int), (0 : Int))) := by kernel_rfl
theorem f15_eq (n : Nat) (l : List (Int × (Int × Int))) (x : ((Int × ByteArray) × (Int × Bool))) : f15 n l x =
  (f16 n l).bind fun r1 =>
  bif r1.snd != (0 : Int) then
   some (((0 : Int), (0 : Int), (0 : Int), (0 : Int)), (0 : Int), (80 : Int))
  else
   f15_12 n n l (0 : Int) x (((0 : Int), (0 : Int), (0 : Int), (0 : Int))) (((0 : Int), (0 : Int), (0 : Int), (0 : Int))) := by kernel_rfl
/- convoy/convoylaw08.awake -/
noncomputable def c5 : Cfg := ⟨5, Tryd.f5, [], [.bool], 5, [], []⟩
noncomputable def T5 (n : Nat) : Tab := ⟨[e15 n], []⟩
noncomputable def e5 (n : Nat) : Entry := c5.entry Tryd.prog (T5 n) n
theorem ok5 {W0 : World} (n : Nat) : FnOK Tryd.prog W0 (e5 n) := c5.sound (.cons (ok15 n) .nil) n Tryd.func5 (by kernel_rfl) (by kernel_rfl)
noncomputable def f5 (n : Nat) : Option (Bool) := c5.f Tryd.prog (T5 n) n ()
theorem f5_eq (n : Nat) : f5 n =
  (f15 n [((1 : Int), (5 : Int), (0 : Int)), ((2 : Int), (1 : Int), (0 : Int)), ((10 : Int), (0 : Int), (0 : Int))] (((0 : Int), ByteArray.empty), (1 : Int), false)).bind fun r1 =>
  bif r1.fst.fst == (10 : Int) && (r1.fst.snd.fst == (0 : Int) && (r1.fst.snd.snd.fst == (0 : Int) && r1.fst.snd.snd.snd == (0 : Int))) then
   some (r1.snd.snd == (0 : Int))
  else
   some false := by kernel_rfl
/- convoy/recipe.right -/
noncomputable def c28 : Cfg := ⟨28, Tryd.f28, [(.sl 55 (.agg (.pair (.int .i64) (.pair (.int .i64) (.int .i64))))), (.agg (.pair (.int .i64) (.pair (.int .i64) (.pair (.int .i64) (.int .i64)))))], [(.int .i64)], 5, [], []⟩
noncomputable def T28 (n : Nat) : Tab := ⟨[e16 n], []⟩
noncomputable def e28 (n : Nat) : Entry := c28.entry Tryd.prog (T28 n) n
theorem ok28 {W0 : World} (n : Nat) : FnOK Tryd.prog W0 (e28 n) := c28.sound (.cons (ok16 n) .nil) n Tryd.func28 (by kernel_rfl) (by kernel_rfl)
noncomputable def f28 (n : Nat) (l : List (Int × (Int × Int))) (c : (Int × (Int × (Int × Int)))) : Option (Int) := c28.f Tryd.prog (T28 n) n (l, c)
theorem f28_eq (n : Nat) (l : List (Int × (Int × Int))) (c : (Int × (Int × (Int × Int)))) : f28 n l c =
  (f16 n l).bind fun r1 =>
  bif r1.snd != (0 : Int) then
   some (80 : Int)
  else
   bif decide (c.fst < (0 : Int)) then
    some (1 : Int)
   else
    bif decide (c.fst > ↑l.length) then
     some (1 : Int)
    else
     bif c.snd.snd.fst != (0 : Int) then
      some (1 : Int)
     else
      some (0 : Int) := by kernel_rfl
/- convoy/recipe.On -/
noncomputable def c13 : Cfg := ⟨13, Tryd.f13, [(.sl 55 (.agg (.pair (.int .i64) (.pair (.int .i64) (.int .i64))))), (.agg (.pair (.int .i64) (.pair (.int .i64) (.pair (.int .i64) (.int .i64))))), (.agg (.pair (.agg (.pair (.int .u16) .str)) (.pair (.int .i64) .bool)))], [(.agg (.pair (.int .i64) (.pair (.int .i64) (.pair (.int .i64) (.int .i64))))), (.agg (.pair (.int .i64) (.agg (.pair (.int .i64) (.pair (.int .i64) (.int .i64)))))), .bool, (.int .i64)], 6, [], [(8, ⟨40, 6, [(0, (.val (.sl 55 (.agg (.pair (.int .i64) (.pair (.int .i64) (.int .i64))))))), (4, (.ptr 1004 [])), (5, (.ptr 1005 [])), (6, (.ptr 1006 [])), (7, (.ptr 1007 [])), (8, (.val .bool)), (9, (.val (.int .i64)))], [(1004, .box (.val (.agg (.pair (.int .i64) (.pair (.int .i64) (.pair (.int .i64) (.int .i64))))))), (1005, .box (.val (.agg (.pair (.agg (.pair (.int .u16) .str)) (.pair (.int .i64) .bool))))), (1006, .box (.val (.agg (.pair (.int .i64) (.pair (.int .i64) (.pair (.int .i64) (.int .i64))))))), (1007, .box (.val (.agg (.pair (.int .i64) (.agg (.pair (.int .i64) (.pair (.int .i64) (.int .i64))))))))]⟩)]⟩
noncomputable def T13 (n : Nat) : Tab := ⟨[e28 n, e29 n], []⟩
noncomputable def e13 (n : Nat) : Entry := c13.entry Tryd.prog (T13 n) n
theorem ok13 {W0 : World} (n : Nat) : FnOK Tryd.prog W0 (e13 n) := c13.sound (.cons (ok28 n) (.cons (ok29 n) .nil)) n Tryd.func13 (by kernel_rfl) (by kernel_rfl)
noncomputable def f13 (n : Nat) (l : List (Int × (Int × Int))) (c : (Int × (Int × (Int × Int)))) (x : ((Int × ByteArray) × (Int × Bool))) : Option ((Int × (Int × (Int × Int))) × (Int × (Int × (Int × Int))) × Bool × Int) := c13.f Tryd.prog (T13 n) n (l, c, x)
noncomputable def f13_8 (n m : Nat) (l : List (Int × (Int × Int))) (x8 : Bool) (x9 : Int) (b1004 : (Int × (Int × (Int × Int)))) (b1005 : ((Int × ByteArray) × (Int × Bool))) (b1006 : (Int × (Int × (Int × Int)))) (b1007 : (Int × (Int × (Int × Int)))) : Option ((Int × (Int × (Int × Int))) × (Int × (Int × (Int × Int))) × Bool × Int) := c13.LL Tryd.prog (T13 n) m 8 (l, (), (), (), (), x8, x9) (b1004, b1005, b1006, b1007, ())
theorem f13_8_zero (n : Nat) (l : List (Int × (Int × Int))) (x8 : Bool) (x9 : Int) (b1004 : (Int × (Int × (Int × Int)))) (b1005 : ((Int × ByteArray) × (Int × Bool))) (b1006 : (Int × (Int × (Int × Int)))) (b1007 : (Int × (Int × (Int × Int)))) : f13_8 n 0 l x8 x9 b1004 b1005 b1006 b1007 = none := rfl
theorem f13_8_eq (n m : Nat) (l : List (Int × (Int × Int))) (x8 : Bool) (x9 : Int) (b1004 : (Int × (Int × (Int × Int)))) (b1005 : ((Int × ByteArray) × (Int × Bool))) (b1006 : (Int × (Int × (Int × Int)))) (b1007 : (Int × (Int × (Int × Int)))) : f13_8 n (m + 1) l x8 x9 b1004 b1005 b1006 b1007 =
  (f29 n l b1004 b1005).bind fun r1 =>
  bif r1.snd.snd then
   some (r1.fst, r1.snd.fst, r1.snd.snd, (0 : Int))
  else
   bif r1.fst.snd.snd.fst != (0 : Int) then
    some (r1.fst, r1.snd.fst, r1.snd.snd, (0 : Int))
   else
    f13_8 n m l x8 x9 r1.fst b1005 b1006 b1007 := by kernel_rfl
theorem f13_eq (n : Nat) (l : List (Int × (Int × Int))) (c : (Int × (Int × (Int × Int)))) (x : ((Int × ByteArray) × (Int × Bool))) : f13 n l c x =
  (f28 n l c).bind fun r1 =>
  bif r1 != (0 : Int) then
   some (((0 : Int), (0 : Int), (0 : Int), (0 : Int)), ((0 : Int), (0 : Int), (0 : Int), (0 : Int)), false, r1)
  else
   f13_8 n n l false (0 : Int) c x (((0 : Int), (0 : Int), (0 : Int), (0 : Int))) (((0 : Int), (0 : Int), (0 : Int), (0 : Int))) := by kernel_rfl
/- convoy/recipe.Do -/
noncomputable def c14 : Cfg := ⟨14, Tryd.f14, [(.sl 55 (.agg (.pair (.int .i64) (.pair (.int .i64) (.int .i64))))), (.agg (.pair (.int .i64) (.pair (.int .i64) (.pair (.int .i64) (.int .i64))))), (.agg (.pair (.agg (.pair (.int .u16) .str)) (.pair (.int .i64) .bool)))], [(.agg (.pair (.int .i64) (.pair (.int .i64) (.pair (.int .i64) (.int .i64))))), (.agg (.pair (.int .i64) (.agg (.pair (.int .i64) (.pair (.int .i64) (.int .i64)))))), .bool, (.int .i64)], 6, [], []⟩
noncomputable def T14 (n : Nat) : Tab := ⟨[e28 n, e29 n], []⟩
noncomputable def e14 (n : Nat) : Entry := c14.entry Tryd.prog (T14 n) n
theorem ok14 {W0 : World} (n : Nat) : FnOK Tryd.prog W0 (e14 n) := c14.sound (.cons (ok28 n) (.cons (ok29 n) .nil)) n Tryd.func14 (by kernel_rfl) (by kernel_rfl)
noncomputable def f14 (n : Nat) (l : List (Int × (Int × Int))) (c : (Int × (Int × (Int × Int)))) (x : ((Int × ByteArray) × (Int × Bool))) : Option ((Int × (Int × (Int × Int))) × (Int × (Int × (Int × Int))) × Bool × Int) := c14.f Tryd.prog (T14 n) n (l, c, x)
theorem f14_eq (n : Nat) (l : List (Int × (Int × Int))) (c : (Int × (Int × (Int × Int)))) (x : ((Int × ByteArray) × (Int × Bool))) : f14 n l c x =
  (f28 n l c).bind fun r1 =>
  bif r1 != (0 : Int) then
   some (((0 : Int), (0 : Int), (0 : Int), (0 : Int)), ((0 : Int), (0 : Int), (0 : Int), (0 : Int)), false, r1)
  else
   (f29 n l c x).bind fun r2 =>
   some (r2.fst, r2.snd.fst, r2.snd.snd, (0 : Int)) := by kernel_rfl
/- convoy/convoyref08.may -/
noncomputable def c20 : Cfg := ⟨20, Tryd.f20, [(.agg (.pair (.int .i64) (.pair (.int .i64) (.int .i64))))], [.bool], 7, [], []⟩
noncomputable def T20 (_ : Nat) : Tab := ⟨[], []⟩
noncomputable def e20 (n : Nat) : Entry := c20.entry Tryd.prog (T20 n) n
theorem ok20 {W0 : World} (n : Nat) : FnOK Tryd.prog W0 (e20 n) := c20.sound .nil n Tryd.func20 (by kernel_rfl) (by kernel_rfl)
noncomputable def f20 (n : Nat) (x : (Int × (Int × Int))) : Option (Bool) := c20.f Tryd.prog (T20 n) n x
theorem f20_eq (n : Nat) (x : (Int × (Int × Int))) : f20 n x =
  bif x.fst == (1 : Int) then
   bif x.fst == (1 : Int) then
    some (x.snd.snd == (0 : Int))
   else
    bif x.fst == (2 : Int) then
     bif decide (x.snd.fst ≥ (-63 : Int)) then
      bif decide (x.snd.fst ≤ (63 : Int)) then
       some (x.snd.snd == (0 : Int))
      else
       some false
     else
      some false
    else
     bif x.fst == (5 : Int) then
      bif decide (x.snd.fst ≥ (0 : Int)) then
       bif decide (x.snd.fst ≤ (63 : Int)) then
        some (x.snd.snd == (0 : Int))
       else
        some false
      else
       some false
     else
      bif x.fst == (6 : Int) then
       bif decide (x.snd.fst ≥ (0 : Int)) then
        bif decide (x.snd.fst ≤ (255 : Int)) then
         some (x.snd.snd == (0 : Int))
        else
         some false
       else
        some false
      else
       bif x.fst == (7 : Int) then
        bif decide (x.snd.fst ≥ (0 : Int)) then
         bif decide (x.snd.fst ≤ (4611686018427387904 : Int)) then
          some (x.snd.snd == (0 : Int))
         else
          some false
        else
         some false
       else
        bif x.fst == (9 : Int) then
         bif decide (x.snd.fst ≥ (0 : Int)) then
          bif decide (x.snd.fst ≤ (3 : Int)) then
           bif decide (x.snd.snd ≥ (1 : Int)) then
            some (decide (x.snd.snd ≤ (256 : Int)))
           else
            some false
          else
           some false
         else
          some false
        else
         bif x.fst == (3 : Int) then
          bif x.fst == (3 : Int) then
           bif x.snd.fst == (0 : Int) then
            some (x.snd.snd == (0 : Int))
           else
            some false
          else
           some false
         else
          bif x.fst == (4 : Int) then
           bif x.fst == (4 : Int) then
            bif x.snd.fst == (0 : Int) then
             some (x.snd.snd == (0 : Int))
            else
             some false
           else
            some false
          else
           bif x.fst == (8 : Int) then
            bif x.fst == (8 : Int) then
             bif x.snd.fst == (0 : Int) then
              some (x.snd.snd == (0 : Int))
             else
              some false
            else
             some false
           else
            bif x.fst == (10 : Int) then
             bif x.snd.fst == (0 : Int) then
              some (x.snd.snd == (0 : Int))
             else
              some false
            else
             some false
  else
   bif x.fst == (11 : Int) then
    bif x.fst == (11 : Int) then
     some (x.snd.snd == (0 : Int))
    else
     bif x.fst == (2 : Int) then
      bif decide (x.snd.fst ≥ (-63 : Int)) then
       bif decide (x.snd.fst ≤ (63 : Int)) then
        some (x.snd.snd == (0 : Int))
       else
        some false
      else
       some false
     else
      bif x.fst == (5 : Int) then
       bif decide (x.snd.fst ≥ (0 : Int)) then
        bif decide (x.snd.fst ≤ (63 : Int)) then
         some (x.snd.snd == (0 : Int))
        else
         some false
       else
        some false
      else
       bif x.fst == (6 : Int) then
        bif decide (x.snd.fst ≥ (0 : Int)) then
         bif decide (x.snd.fst ≤ (255 : Int)) then
          some (x.snd.snd == (0 : Int))
         else
          some false
        else
         some false
       else
        bif x.fst == (7 : Int) then
         bif decide (x.snd.fst ≥ (0 : Int)) then
          bif decide (x.snd.fst ≤ (4611686018427387904 : Int)) then
           some (x.snd.snd == (0 : Int))
          else
           some false
         else
          some false
        else
         bif x.fst == (9 : Int) then
          bif decide (x.snd.fst ≥ (0 : Int)) then
           bif decide (x.snd.fst ≤ (3 : Int)) then
            bif decide (x.snd.snd ≥ (1 : Int)) then
             some (decide (x.snd.snd ≤ (256 : Int)))
            else
             some false
           else
            some false
          else
           some false
         else
          bif x.fst == (3 : Int) then
           bif x.fst == (3 : Int) then
            bif x.snd.fst == (0 : Int) then
             some (x.snd.snd == (0 : Int))
            else
             some false
           else
            some false
          else
           bif x.fst == (4 : Int) then
            bif x.fst == (4 : Int) then
             bif x.snd.fst == (0 : Int) then
              some (x.snd.snd == (0 : Int))
             else
              some false
            else
             some false
           else
            bif x.fst == (8 : Int) then
             bif x.fst == (8 : Int) then
              bif x.snd.fst == (0 : Int) then
               some (x.snd.snd == (0 : Int))
              else
               some false
             else
              some false
            else
             bif x.fst == (10 : Int) then
              bif x.snd.fst == (0 : Int) then
               some (x.snd.snd == (0 : Int))
              else
               some false
             else
              some false
   else
    bif x.fst == (12 : Int) then
     some (x.snd.snd == (0 : Int))
    else
     bif x.fst == (2 : Int) then
      bif decide (x.snd.fst ≥ (-63 : Int)) then
       bif decide (x.snd.fst ≤ (63 : Int)) then
        some (x.snd.snd == (0 : Int))
       else
        some false
      else
       some false
     else
      bif x.fst == (5 : Int) then
       bif decide (x.snd.fst ≥ (0 : Int)) then
        bif decide (x.snd.fst ≤ (63 : Int)) then
         some (x.snd.snd == (0 : Int))
        else
         some false
       else
        some false
      else
       bif x.fst == (6 : Int) then
        bif decide (x.snd.fst ≥ (0 : Int)) then
         bif decide (x.snd.fst ≤ (255 : Int)) then
          some (x.snd.snd == (0 : Int))
         else
          some false
        else
         some false
       else
        bif x.fst == (7 : Int) then
         bif decide (x.snd.fst ≥ (0 : Int)) then
          bif decide (x.snd.fst ≤ (4611686018427387904 : Int)) then
           some (x.snd.snd == (0 : Int))
          else
           some false
         else
          some false
        else
         bif x.fst == (9 : Int) then
          bif decide (x.snd.fst ≥ (0 : Int)) then
           bif decide (x.snd.fst ≤ (3 : Int)) then
            bif decide (x.snd.snd ≥ (1 : Int)) then
             some (decide (x.snd.snd ≤ (256 : Int)))
            else
             some false
           else
            some false
          else
           some false
         else
          bif x.fst == (3 : Int) then
           bif x.fst == (3 : Int) then
            bif x.snd.fst == (0 : Int) then
             some (x.snd.snd == (0 : Int))
            else
             some false
           else
            some false
          else
           bif x.fst == (4 : Int) then
            bif x.fst == (4 : Int) then
             bif x.snd.fst == (0 : Int) then
              some (x.snd.snd == (0 : Int))
             else
              some false
            else
             some false
           else
            bif x.fst == (8 : Int) then
             bif x.fst == (8 : Int) then
              bif x.snd.fst == (0 : Int) then
               some (x.snd.snd == (0 : Int))
              else
               some false
             else
              some false
            else
             bif x.fst == (10 : Int) then
              bif x.snd.fst == (0 : Int) then
               some (x.snd.snd == (0 : Int))
              else
               some false
             else
              some false := by kernel_rfl
/- convoy/convoyref08.Check -/
noncomputable def c7 : Cfg := ⟨7, Tryd.f7, [(.sl 66 (.agg (.pair (.int .i64) (.pair (.int .i64) (.int .i64)))))], [(.int .i64), (.int .i64)], 5, [], [(8, ⟨21, 5, [(9, (.val (.sl 66 (.agg (.pair (.int .i64) (.pair (.int .i64) (.int .i64))))))), (10, (.val (.int .i64))), (11, (.val (.int .i64)))], []⟩)]⟩
noncomputable def T7 (n : Nat) : Tab := ⟨[e20 n], []⟩
noncomputable def e7 (n : Nat) : Entry := c7.entry Tryd.prog (T7 n) n
theorem ok7 {W0 : World} (n : Nat) : FnOK Tryd.prog W0 (e7 n) := c7.sound (.cons (ok20 n) .nil) n Tryd.func7 (by kernel_rfl) (by kernel_rfl)
noncomputable def f7 (n : Nat) (l : List (Int × (Int × Int))) : Option (Int × Int) := c7.f Tryd.prog (T7 n) n l
noncomputable def f7_8 (n m : Nat) (x9 : List (Int × (Int × Int))) (x10 : Int) (x11 : Int) : Option (Int × Int) := c7.LL Tryd.prog (T7 n) m 8 (x9, x10, x11) ()
theorem f7_8_zero (n : Nat) (x9 : List (Int × (Int × Int))) (x10 : Int) (x11 : Int) : f7_8 n 0 x9 x10 x11 = none := rfl
theorem f7_8_eq (n m : Nat) (x9 : List (Int × (Int × Int))) (x10 : Int) (x11 : Int) : f7_8 n (m + 1) x9 x10 x11 =
  bif decide (x11 < x10) then
   bif decide ((0 : Int) ≤ x11 ∧ x11 < ↑x9.length) then
    (f20 n (x9.getD x11.toNat ((0 : Int), (0 : Int), (0 : Int)))).bind fun r1 =>
    bif !r1 then
     some (x11, (80 : Int))
    else
     f7_8 n m x9 x10 (Go.IntKind.i64.wrap (x11 + (1 : Int)))
   else
    none
  else
   some ((0 : Int), (0 : Int)) := by kernel_rfl
theorem f7_eq (n : Nat) (l : List (Int × (Int × Int))) : f7 n l =
  bif decide ((↑l.length : Int) > (256 : Int)) then
   some ((256 : Int), (3 : Int))
  else
   f7_8 n n l ↑l.length (0 : Int) := by kernel_rfl
/- convoy/convoylaw08.given -/
noncomputable def c8 : Cfg := ⟨8, Tryd.f8, [(.sl 55 (.agg (.pair (.int .i64) (.pair (.int .i64) (.int .i64)))))], [(.sl 66 (.agg (.pair (.int .i64) (.pair (.int .i64) (.int .i64)))))], 5, [], [(6, ⟨19, 5, [(3, (.rs 1006)), (7, (.val (.sl 55 (.agg (.pair (.int .i64) (.pair (.int .i64) (.int .i64))))))), (8, (.val (.int .i64))), (9, (.val (.int .i64)))], [(1006, .row 66 (.agg (.pair (.int .i64) (.pair (.int .i64) (.int .i64)))))]⟩)]⟩
noncomputable def T8 (_ : Nat) : Tab := ⟨[], []⟩
noncomputable def e8 (n : Nat) : Entry := c8.entry Tryd.prog (T8 n) n
theorem ok8 {W0 : World} (n : Nat) : FnOK Tryd.prog W0 (e8 n) := c8.sound .nil n Tryd.func8 (by kernel_rfl) (by kernel_rfl)
noncomputable def f8 (n : Nat) (l : List (Int × (Int × Int))) : Option (List (Int × (Int × Int))) := c8.f Tryd.prog (T8 n) n l
noncomputable def f8_6 (n m : Nat) (x7 : List (Int × (Int × Int))) (x8 : Int) (x9 : Int) (l1006 : List (Int × (Int × Int))) : Option (List (Int × (Int × Int))) := c8.LL Tryd.prog (T8 n) m 6 ((), x7, x8, x9) (l1006, ())
theorem f8_6_zero (n : Nat) (x7 : List (Int × (Int × Int))) (x8 : Int) (x9 : Int) (l1006 : List (Int × (Int × Int))) : f8_6 n 0 x7 x8 x9 l1006 = none := rfl
theorem f8_6_eq (n m : Nat) (x7 : List (Int × (Int × Int))) (x8 : Int) (x9 : Int) (l1006 : List (Int × (Int × Int))) : f8_6 n (m + 1) x7 x8 x9 l1006 =
  bif decide (x9 < x8) then
   bif decide ((0 : Int) ≤ x9 ∧ x9 < ↑x7.length) then
    bif decide ((l1006.length + [x7.getD x9.toNat ((0 : Int), (0 : Int), (0 : Int))].length) * (24 : Nat) ≤ Go.Rf.maxBytes) then
     f8_6 n m x7 x8 (Go.IntKind.i64.wrap (x9 + (1 : Int))) (l1006 ++ [x7.getD x9.toNat ((0 : Int), (0 : Int), (0 : Int))])
    else
     none
   else
    none
  else
   some l1006 := by kernel_rfl
theorem f8_eq (n : Nat) (l : List (Int × (Int × Int))) : f8 n l =
  f8_6 n n l ↑l.length (0 : Int) [] := by kernel_rfl
noncomputable def s21x0 : ByteArray := { data := #[97, 100, 100] }
noncomputable def s21x1 : ByteArray := { data := #[115, 104, 105, 102, 116] }
noncomputable def s21x2 : ByteArray := { data := #[107, 101, 121] }
noncomputable def s21x3 : ByteArray := { data := #[114, 117, 110] }
noncomputable def s21x4 : ByteArray := { data := #[116, 117, 114, 110] }
noncomputable def s21x5 : ByteArray := { data := #[103, 97, 116, 101] }
noncomputable def s21x6 : ByteArray := { data := #[115, 108, 101, 101, 112] }
noncomputable def s21x7 : ByteArray := { data := #[104, 101, 101, 100] }
noncomputable def s21x8 : ByteArray := { data := #[115, 107, 105, 112] }
noncomputable def s21x9 : ByteArray := { data := #[97, 110, 115, 119, 101, 114] }
noncomputable def s21x10 : ByteArray := { data := #[102, 97, 105, 108] }
noncomputable def s21x11 : ByteArray := { data := #[112, 97, 110, 105, 99] }
/- convoy/convoyref08.word -/
noncomputable def c21 : Cfg := ⟨21, Tryd.f21, [(.int .i64)], [.str, (.int .i64)], 5, [], []⟩
noncomputable def T21 (_ : Nat) : Tab := ⟨[], []⟩
noncomputable def e21 (n : Nat) : Entry := c21.entry Tryd.prog (T21 n) n
theorem ok21 {W0 : World} (n : Nat) : FnOK Tryd.prog W0 (e21 n) := c21.sound .nil n Tryd.func21 (by kernel_rfl) (by kernel_rfl)
noncomputable def f21 (n : Nat) (op : Int) : Option (ByteArray × Int) := c21.f Tryd.prog (T21 n) n op
theorem f21_eq (n : Nat) (op : Int) : f21 n op =
  bif op == (1 : Int) then
   some (s21x0, (1 : Int))
  else
   bif op == (2 : Int) then
    some (s21x1, (1 : Int))
   else
    bif op == (3 : Int) then
     some (s21x2, (0 : Int))
    else
     bif op == (4 : Int) then
      some (s21x3, (0 : Int))
     else
      bif op == (5 : Int) then
       some (s21x4, (1 : Int))
      else
       bif op == (6 : Int) then
        some (s21x5, (1 : Int))
       else
        bif op == (7 : Int) then
         some (s21x6, (1 : Int))
        else
         bif op == (8 : Int) then
          some (s21x7, (0 : Int))
         else
          bif op == (9 : Int) then
           some (s21x8, (2 : Int))
          else
           bif op == (10 : Int) then
            some (s21x9, (0 : Int))
           else
            bif op == (11 : Int) then
             some (s21x10, (1 : Int))
            else
             some (s21x11, (1 : Int)) := by kernel_rfl
noncomputable def s22x0 : ByteArray := { data := #[45] }
/- convoy/convoyref08.digits -/
noncomputable def c22 : Cfg := ⟨22, Tryd.f22, [(.int .i64)], [.str], 5, [], [(4, ⟨29, 5, [(0, (.val (.int .i64))), (3, (.val .str)), (4, (.val (.int .i64)))], []⟩)]⟩
noncomputable def T22 (_ : Nat) : Tab := ⟨[], []⟩
noncomputable def e22 (n : Nat) : Entry := c22.entry Tryd.prog (T22 n) n
theorem ok22 {W0 : World} (n : Nat) : FnOK Tryd.prog W0 (e22 n) := c22.sound .nil n Tryd.func22 (by kernel_rfl) (by kernel_rfl)
noncomputable def f22 (n : Nat) (a0 : Int) : Option (ByteArray) := c22.f Tryd.prog (T22 n) n a0
noncomputable def f22_4 (n m : Nat) (x0 : Int) (s : ByteArray) (x : Int) : Option (ByteArray) := c22.LL Tryd.prog (T22 n) m 4 (x0, s, x) ()
theorem f22_4_zero (n : Nat) (x0 : Int) (s : ByteArray) (x : Int) : f22_4 n 0 x0 s x = none := rfl
theorem f22_4_eq (n m : Nat) (x0 : Int) (s : ByteArray) (x : Int) : f22_4 n (m + 1) x0 s x =
  bif decide (x.tmod (10 : Int) < (0 : Int)) then
   bif decide ((↑((Go.Rf.mkBytes [Go.IntKind.u8.wrap (Go.IntKind.i64.wrap ((48 : Int) + Go.IntKind.i64.wrap ((0 : Int) - x.tmod (10 : Int))))]).size + s.size) : Int) > Int.ofNat (9223372036854775807 : Nat)) then
    none
   else
    bif Go.IntKind.i64.wrap (x.tdiv (10 : Int)) == (0 : Int) then
     bif decide (x0 < (0 : Int)) then
      bif decide ((↑((1 : Nat) + (Go.Rf.mkBytes [Go.IntKind.u8.wrap (Go.IntKind.i64.wrap ((48 : Int) + Go.IntKind.i64.wrap ((0 : Int) - x.tmod (10 : Int))))] ++ s).size) : Int) > Int.ofNat (9223372036854775807 : Nat)) then
       none
      else
       some (s22x0 ++ (Go.Rf.mkBytes [Go.IntKind.u8.wrap (Go.IntKind.i64.wrap ((48 : Int) + Go.IntKind.i64.wrap ((0 : Int) - x.tmod (10 : Int))))] ++ s))
     else
      some (Go.Rf.mkBytes [Go.IntKind.u8.wrap (Go.IntKind.i64.wrap ((48 : Int) + Go.IntKind.i64.wrap ((0 : Int) - x.tmod (10 : Int))))] ++ s)
    else
     f22_4 n m x0 (Go.Rf.mkBytes [Go.IntKind.u8.wrap (Go.IntKind.i64.wrap ((48 : Int) + Go.IntKind.i64.wrap ((0 : Int) - x.tmod (10 : Int))))] ++ s) (Go.IntKind.i64.wrap (x.tdiv (10 : Int)))
  else
   bif decide ((↑((Go.Rf.mkBytes [Go.IntKind.u8.wrap (Go.IntKind.i64.wrap ((48 : Int) + x.tmod (10 : Int)))]).size + s.size) : Int) > Int.ofNat (9223372036854775807 : Nat)) then
    none
   else
    bif Go.IntKind.i64.wrap (x.tdiv (10 : Int)) == (0 : Int) then
     bif decide (x0 < (0 : Int)) then
      bif decide ((↑((1 : Nat) + (Go.Rf.mkBytes [Go.IntKind.u8.wrap (Go.IntKind.i64.wrap ((48 : Int) + x.tmod (10 : Int)))] ++ s).size) : Int) > Int.ofNat (9223372036854775807 : Nat)) then
       none
      else
       some (s22x0 ++ (Go.Rf.mkBytes [Go.IntKind.u8.wrap (Go.IntKind.i64.wrap ((48 : Int) + x.tmod (10 : Int)))] ++ s))
     else
      some (Go.Rf.mkBytes [Go.IntKind.u8.wrap (Go.IntKind.i64.wrap ((48 : Int) + x.tmod (10 : Int)))] ++ s)
    else
     f22_4 n m x0 (Go.Rf.mkBytes [Go.IntKind.u8.wrap (Go.IntKind.i64.wrap ((48 : Int) + x.tmod (10 : Int)))] ++ s) (Go.IntKind.i64.wrap (x.tdiv (10 : Int))) := by kernel_rfl
theorem f22_eq (n : Nat) (a0 : Int) : f22 n a0 =
  f22_4 n n a0 ByteArray.empty a0 := by kernel_rfl
noncomputable def s9x0 : ByteArray := { data := #[32] }
/- convoy/convoyref08.Text -/
noncomputable def c9 : Cfg := ⟨9, Tryd.f9, [(.sl 66 (.agg (.pair (.int .i64) (.pair (.int .i64) (.int .i64)))))], [.str], 6, [8, 11], [(6, ⟨45, 6, [(3, (.val .str)), (8, (.val (.sl 66 (.agg (.pair (.int .i64) (.pair (.int .i64) (.int .i64))))))), (9, (.val (.int .i64))), (10, (.val (.int .i64)))], []⟩), (17, ⟨45, 6, [(3, (.val .str)), (5, (.ptr 1005 [])), (6, (.val .str)), (7, (.val (.int .i64))), (8, (.val (.sl 66 (.agg (.pair (.int .i64) (.pair (.int .i64) (.int .i64))))))), (9, (.val (.int .i64))), (10, (.val (.int .i64)))], [(1005, .box (.val (.agg (.pair (.int .i64) (.pair (.int .i64) (.int .i64))))))]⟩), (23, ⟨45, 6, [(3, (.val .str)), (5, (.ptr 1005 [])), (7, (.val (.int .i64))), (8, (.val (.sl 66 (.agg (.pair (.int .i64) (.pair (.int .i64) (.int .i64))))))), (9, (.val (.int .i64))), (10, (.val (.int .i64)))], [(1005, .box (.val (.agg (.pair (.int .i64) (.pair (.int .i64) (.int .i64))))))]⟩)]⟩
noncomputable def T9 (n : Nat) : Tab := ⟨[e21 n, e22 n], []⟩
noncomputable def e9 (n : Nat) : Entry := c9.entry Tryd.prog (T9 n) n
theorem ok9 {W0 : World} (n : Nat) : FnOK Tryd.prog W0 (e9 n) := c9.sound (.cons (ok21 n) (.cons (ok22 n) .nil)) n Tryd.func9 (by kernel_rfl) (by kernel_rfl)
noncomputable def f9 (n : Nat) (l : List (Int × (Int × Int))) : Option (ByteArray) := c9.f Tryd.prog (T9 n) n l
noncomputable def f9_6 (n m : Nat) (s : ByteArray) (x8 : List (Int × (Int × Int))) (x9 : Int) (x10 : Int) : Option (ByteArray) := c9.LL Tryd.prog (T9 n) m 6 (s, x8, x9, x10) ()
noncomputable def f9_17 (n m : Nat) (s : ByteArray) (w : ByteArray) (x7 : Int) (x8 : List (Int × (Int × Int))) (x9 : Int) (x10 : Int) (b1005 : (Int × (Int × Int))) : Option (ByteArray) := c9.LL Tryd.prog (T9 n) m 17 (s, (), w, x7, x8, x9, x10) (b1005, ())
noncomputable def f9_23 (n m : Nat) (s : ByteArray) (x7 : Int) (x8 : List (Int × (Int × Int))) (x9 : Int) (x10 : Int) (b1005 : (Int × (Int × Int))) : Option (ByteArray) := c9.LL Tryd.prog (T9 n) m 23 (s, (), x7, x8, x9, x10) (b1005, ())
theorem f9_6_zero (n : Nat) (s : ByteArray) (x8 : List (Int × (Int × Int))) (x9 : Int) (x10 : Int) : f9_6 n 0 s x8 x9 x10 = none := rfl
theorem f9_6_eq (n m : Nat) (s : ByteArray) (x8 : List (Int × (Int × Int))) (x9 : Int) (x10 : Int) : f9_6 n (m + 1) s x8 x9 x10 =
  bif decide (x10 < x9) then
   bif decide ((0 : Int) ≤ x10 ∧ x10 < ↑x8.length) then
    (f21 n (x8.getD x10.toNat ((0 : Int), (0 : Int), (0 : Int))).fst).bind fun r1 =>
    bif !s.toList == ByteArray.empty.toList then
     bif decide ((↑(s.size + (1 : Nat)) : Int) > Int.ofNat (9223372036854775807 : Nat)) then
      none
     else
      f9_17 n m (s ++ s9x0) r1.fst r1.snd x8 x9 x10 (x8.getD x10.toNat ((0 : Int), (0 : Int), (0 : Int)))
    else
     f9_17 n m s r1.fst r1.snd x8 x9 x10 (x8.getD x10.toNat ((0 : Int), (0 : Int), (0 : Int)))
   else
    none
  else
   some s := by kernel_rfl
theorem f9_17_zero (n : Nat) (s : ByteArray) (w : ByteArray) (x7 : Int) (x8 : List (Int × (Int × Int))) (x9 : Int) (x10 : Int) (b1005 : (Int × (Int × Int))) : f9_17 n 0 s w x7 x8 x9 x10 b1005 = none := rfl
theorem f9_17_eq (n m : Nat) (s : ByteArray) (w : ByteArray) (x7 : Int) (x8 : List (Int × (Int × Int))) (x9 : Int) (x10 : Int) (b1005 : (Int × (Int × Int))) : f9_17 n (m + 1) s w x7 x8 x9 x10 b1005 =
  bif decide ((↑(s.size + w.size) : Int) > Int.ofNat (9223372036854775807 : Nat)) then
   none
  else
   bif decide (x7 > (0 : Int)) then
    (f22 n b1005.snd.fst).bind fun r1 =>
    bif decide ((↑((1 : Nat) + ByteArray.size r1) : Int) > Int.ofNat (9223372036854775807 : Nat)) then
     none
    else
     bif decide ((↑((s ++ w).size + (s9x0 ++ r1).size) : Int) > Int.ofNat (9223372036854775807 : Nat)) then
      none
     else
      f9_23 n m (s ++ w ++ (s9x0 ++ r1)) x7 x8 x9 x10 b1005
   else
    f9_23 n m (s ++ w) x7 x8 x9 x10 b1005 := by kernel_rfl
theorem f9_23_zero (n : Nat) (s : ByteArray) (x7 : Int) (x8 : List (Int × (Int × Int))) (x9 : Int) (x10 : Int) (b1005 : (Int × (Int × Int))) : f9_23 n 0 s x7 x8 x9 x10 b1005 = none := rfl
theorem f9_23_eq (n m : Nat) (s : ByteArray) (x7 : Int) (x8 : List (Int × (Int × Int))) (x9 : Int) (x10 : Int) (b1005 : (Int × (Int × Int))) : f9_23 n (m + 1) s x7 x8 x9 x10 b1005 =
  bif decide (x7 > (1 : Int)) then
   (f22 n b1005.snd.snd).bind fun r1 =>
   bif decide ((↑((1 : Nat) + ByteArray.size r1) : Int) > Int.ofNat (9223372036854775807 : Nat)) then
    none
   else
    bif decide ((↑(s.size + (s9x0 ++ r1).size) : Int) > Int.ofNat (9223372036854775807 : Nat)) then
     none
    else
     f9_6 n m (s ++ (s9x0 ++ r1)) x8 x9 (Go.IntKind.i64.wrap (x10 + (1 : Int)))
  else
   f9_6 n m s x8 x9 (Go.IntKind.i64.wrap (x10 + (1 : Int))) := by kernel_rfl
theorem f9_eq (n : Nat) (l : List (Int × (Int × Int))) : f9 n l =
  f9_6 n n ByteArray.empty l ↑l.length (0 : Int) := by kernel_rfl
/- convoy/convoyref08.next -/
noncomputable def c25 : Cfg := ⟨25, Tryd.f25, [.str, (.int .i64)], [.str], 5, [], [(4, ⟨23, 5, [(0, (.val .str)), (1, (.val (.int .i64))), (5, (.val (.int .i64)))], []⟩)]⟩
noncomputable def T25 (_ : Nat) : Tab := ⟨[], []⟩
noncomputable def e25 (n : Nat) : Entry := c25.entry Tryd.prog (T25 n) n
theorem ok25 {W0 : World} (n : Nat) : FnOK Tryd.prog W0 (e25 n) := c25.sound .nil n Tryd.func25 (by kernel_rfl) (by kernel_rfl)
noncomputable def f25 (n : Nat) (s : ByteArray) (a1 : Int) : Option (ByteArray) := c25.f Tryd.prog (T25 n) n (s, a1)
noncomputable def f25_4 (n m : Nat) (s : ByteArray) (x1 : Int) (i : Int) : Option (ByteArray) := c25.LL Tryd.prog (T25 n) m 4 (s, x1, i) ()
theorem f25_4_zero (n : Nat) (s : ByteArray) (x1 : Int) (i : Int) : f25_4 n 0 s x1 i = none := rfl
theorem f25_4_eq (n m : Nat) (s : ByteArray) (x1 : Int) (i : Int) : f25_4 n (m + 1) s x1 i =
  bif decide (i < ↑s.size) then
   bif decide ((0 : Int) ≤ i ∧ i < ↑s.size) then
    bif Go.Rf.byteAt s i != (32 : Int) then
     f25_4 n m s x1 (Go.IntKind.i64.wrap (i + (1 : Int)))
    else
     bif decide ((0 : Int) ≤ x1 ∧ x1 ≤ i ∧ i ≤ ↑s.size) then
      some (s.extract x1.toNat i.toNat)
     else
      none
   else
    none
  else
   bif decide ((0 : Int) ≤ x1 ∧ x1 ≤ i ∧ i ≤ ↑s.size) then
    some (s.extract x1.toNat i.toNat)
   else
    none := by kernel_rfl
theorem f25_eq (n : Nat) (s : ByteArray) (a1 : Int) : f25 n s a1 =
  f25_4 n n s a1 a1 := by kernel_rfl
/- convoy/convoyref08.op -/
noncomputable def c26 : Cfg := ⟨26, Tryd.f26, [.str], [(.int .i64)], 5, [], [(4, ⟨19, 5, [(0, (.val .str)), (3, (.val (.int .i64)))], []⟩)]⟩
noncomputable def T26 (n : Nat) : Tab := ⟨[e21 n], []⟩
noncomputable def e26 (n : Nat) : Entry := c26.entry Tryd.prog (T26 n) n
theorem ok26 {W0 : World} (n : Nat) : FnOK Tryd.prog W0 (e26 n) := c26.sound (.cons (ok21 n) .nil) n Tryd.func26 (by kernel_rfl) (by kernel_rfl)
noncomputable def f26 (n : Nat) (w : ByteArray) : Option (Int) := c26.f Tryd.prog (T26 n) n w
noncomputable def f26_4 (n m : Nat) (w : ByteArray) (k : Int) : Option (Int) := c26.LL Tryd.prog (T26 n) m 4 (w, k) ()
theorem f26_4_zero (n : Nat) (w : ByteArray) (k : Int) : f26_4 n 0 w k = none := rfl
theorem f26_4_eq (n m : Nat) (w : ByteArray) (k : Int) : f26_4 n (m + 1) w k =
  bif decide (k ≤ (12 : Int)) then
   (f21 n k).bind fun r1 =>
   bif ByteArray.toList r1.fst == w.toList then
    some k
   else
    f26_4 n m w (Go.IntKind.i64.wrap (k + (1 : Int)))
  else
   some (0 : Int) := by kernel_rfl
theorem f26_eq (n : Nat) (w : ByteArray) : f26 n w =
  f26_4 n n w (1 : Int) := by kernel_rfl
/- convoy/convoyref08.number -/
noncomputable def c27 : Cfg := ⟨27, Tryd.f27, [.str], [(.int .i64), .bool], 6, [], [(18, ⟨56, 6, [(0, (.val .str)), (4, (.val .str)), (5, (.val (.int .i64))), (6, (.val (.int .i64))), (7, (.val (.int .i64)))], []⟩)]⟩
noncomputable def T27 (n : Nat) : Tab := ⟨[e22 n], []⟩
noncomputable def e27 (n : Nat) : Entry := c27.entry Tryd.prog (T27 n) n
theorem ok27 {W0 : World} (n : Nat) : FnOK Tryd.prog W0 (e27 n) := c27.sound (.cons (ok22 n) .nil) n Tryd.func27 (by kernel_rfl) (by kernel_rfl)
noncomputable def f27 (n : Nat) (s : ByteArray) : Option (Int × Bool) := c27.f Tryd.prog (T27 n) n s
noncomputable def f27_18 (n m : Nat) (s : ByteArray) (t : ByteArray) (sign : Int) (x6 : Int) (i : Int) : Option (Int × Bool) := c27.LL Tryd.prog (T27 n) m 18 (s, t, sign, x6, i) ()
theorem f27_18_zero (n : Nat) (s : ByteArray) (t : ByteArray) (sign : Int) (x6 : Int) (i : Int) : f27_18 n 0 s t sign x6 i = none := rfl
theorem f27_18_eq (n m : Nat) (s : ByteArray) (t : ByteArray) (sign : Int) (x6 : Int) (i : Int) : f27_18 n (m + 1) s t sign x6 i =
  bif decide (i < ↑t.size) then
   bif decide ((0 : Int) ≤ i ∧ i < ↑t.size) then
    bif decide (Go.Rf.byteAt t i < (48 : Int)) then
     some ((0 : Int), false)
    else
     bif decide ((0 : Int) ≤ i ∧ i < ↑t.size) then
      bif decide (Go.Rf.byteAt t i > (57 : Int)) then
       some ((0 : Int), false)
      else
       bif decide ((0 : Int) ≤ i ∧ i < ↑t.size) then
        f27_18 n m s t sign (Go.IntKind.i64.wrap (Go.IntKind.i64.wrap ((10 : Int) * x6) + Go.IntKind.i64.wrap (sign * Go.IntKind.i64.wrap (Go.IntKind.u8.wrap (Go.Rf.byteAt t i - (48 : Int)))))) (Go.IntKind.i64.wrap (i + (1 : Int)))
       else
        none
     else
      none
   else
    none
  else
   (f22 n x6).bind fun r1 =>
   some (x6, ByteArray.toList r1 == s.toList) := by kernel_rfl
theorem f27_eq (n : Nat) (s : ByteArray) : f27 n s =
  bif !s.toList == ByteArray.empty.toList then
   bif decide ((0 : Int) ≤ (0 : Int) ∧ (0 : Int) < ↑s.size) then
    bif Go.Rf.byteAt s (0 : Int) == (45 : Int) then
     bif decide ((0 : Int) ≤ (1 : Int) ∧ (1 : Int) ≤ ↑s.size ∧ (↑s.size : Int) ≤ ↑s.size) then
      bif (s.extract (1 : Nat) (↑s.size : Int).toNat).toList == ByteArray.empty.toList then
       some ((0 : Int), false)
      else
       bif decide (↑(s.extract (1 : Nat) (↑s.size : Int).toNat).size > (19 : Int)) then
        some ((0 : Int), false)
       else
        f27_18 n n s (s.extract (1 : Nat) (↑s.size : Int).toNat) (-1 : Int) (0 : Int) (0 : Int)
     else
      none
    else
     bif s.toList == ByteArray.empty.toList then
      some ((0 : Int), false)
     else
      bif decide ((↑s.size : Int) > (19 : Int)) then
       some ((0 : Int), false)
      else
       f27_18 n n s s (1 : Int) (0 : Int) (0 : Int)
   else
    none
  else
   bif s.toList == ByteArray.empty.toList then
    some ((0 : Int), false)
   else
    bif decide ((↑s.size : Int) > (19 : Int)) then
     some ((0 : Int), false)
    else
     f27_18 n n s s (1 : Int) (0 : Int) (0 : Int) := by kernel_rfl
/- convoy/convoyref08.Parse -/
noncomputable def c11 : Cfg := ⟨11, Tryd.f11, [.str], [(.sl 66 (.agg (.pair (.int .i64) (.pair (.int .i64) (.int .i64))))), (.int .i64), (.int .i64)], 7, [22, 26], [(10, ⟨105, 7, [(0, (.val .str)), (5, (.rs 1015)), (6, (.val (.int .i64)))], [(1015, .row 66 (.agg (.pair (.int .i64) (.pair (.int .i64) (.int .i64)))))]⟩), (24, ⟨105, 7, [(0, (.val .str)), (5, (.rs 1015)), (6, (.val (.int .i64))), (8, (.ptr 1008 [])), (10, (.val (.int .i64))), (11, (.val (.int .i64)))], [(1008, .box (.val (.agg (.pair (.int .i64) (.pair (.int .i64) (.int .i64)))))), (1015, .row 66 (.agg (.pair (.int .i64) (.pair (.int .i64) (.int .i64)))))]⟩), (45, ⟨105, 7, [(0, (.val .str)), (5, (.rs 1015)), (6, (.val (.int .i64))), (8, (.ptr 1008 [])), (10, (.val (.int .i64))), (11, (.val (.int .i64))), (12, (.val .str)), (13, (.val (.int .i64))), (14, (.val .bool))], [(1008, .box (.val (.agg (.pair (.int .i64) (.pair (.int .i64) (.int .i64)))))), (1015, .row 66 (.agg (.pair (.int .i64) (.pair (.int .i64) (.int .i64)))))]⟩), (53, ⟨105, 7, [(0, (.val .str)), (5, (.rs 1015)), (6, (.val (.int .i64))), (8, (.ptr 1008 [])), (10, (.val (.int .i64))), (11, (.val (.int .i64))), (12, (.val .str)), (14, (.val .bool))], [(1008, .box (.val (.agg (.pair (.int .i64) (.pair (.int .i64) (.int .i64)))))), (1015, .row 66 (.agg (.pair (.int .i64) (.pair (.int .i64) (.int .i64)))))]⟩)]⟩
noncomputable def T11 (n : Nat) : Tab := ⟨[e25 n, e26 n, e21 n, e27 n, e20 n], []⟩
noncomputable def e11 (n : Nat) : Entry := c11.entry Tryd.prog (T11 n) n
theorem ok11 {W0 : World} (n : Nat) : FnOK Tryd.prog W0 (e11 n) := c11.sound (.cons (ok25 n) (.cons (ok26 n) (.cons (ok21 n) (.cons (ok27 n) (.cons (ok20 n) .nil))))) n Tryd.func11 (by kernel_rfl) (by kernel_rfl)
noncomputable def f11 (n : Nat) (s : ByteArray) : Option (List (Int × (Int × Int)) × Int × Int) := c11.f Tryd.prog (T11 n) n s
noncomputable def f11_10 (n m : Nat) (s : ByteArray) (x6 : Int) (l1015 : List (Int × (Int × Int))) : Option (List (Int × (Int × Int)) × Int × Int) := c11.LL Tryd.prog (T11 n) m 10 (s, (), x6) (l1015, ())
noncomputable def f11_24 (n m : Nat) (s : ByteArray) (x6 : Int) (x10 : Int) (k : Int) (b1008 : (Int × (Int × Int))) (l1015 : List (Int × (Int × Int))) : Option (List (Int × (Int × Int)) × Int × Int) := c11.LL Tryd.prog (T11 n) m 24 (s, (), x6, (), x10, k) (b1008, l1015, ())
noncomputable def f11_45 (n m : Nat) (s : ByteArray) (x6 : Int) (x10 : Int) (k : Int) (d : ByteArray) (x13 : Int) (ok : Bool) (b1008 : (Int × (Int × Int))) (l1015 : List (Int × (Int × Int))) : Option (List (Int × (Int × Int)) × Int × Int) := c11.LL Tryd.prog (T11 n) m 45 (s, (), x6, (), x10, k, d, x13, ok) (b1008, l1015, ())
noncomputable def f11_53 (n m : Nat) (s : ByteArray) (x6 : Int) (x10 : Int) (k : Int) (d : ByteArray) (ok : Bool) (b1008 : (Int × (Int × Int))) (l1015 : List (Int × (Int × Int))) : Option (List (Int × (Int × Int)) × Int × Int) := c11.LL Tryd.prog (T11 n) m 53 (s, (), x6, (), x10, k, d, ok) (b1008, l1015, ())
theorem f11_10_zero (n : Nat) (s : ByteArray) (x6 : Int) (l1015 : List (Int × (Int × Int))) : f11_10 n 0 s x6 l1015 = none := rfl
theorem f11_10_eq (n m : Nat) (s : ByteArray) (x6 : Int) (l1015 : List (Int × (Int × Int))) : f11_10 n (m + 1) s x6 l1015 =
  (f25 n s x6).bind fun r1 =>
  (f26 n r1).bind fun r2 =>
  bif r2 == (0 : Int) then
   some ([], x6, (80 : Int))
  else
   (f21 n r2).bind fun r3 =>
   f11_24 n m s (Go.IntKind.i64.wrap (x6 + ↑(ByteArray.size r1))) r3.snd (0 : Int) ((r2, (0 : Int), (0 : Int))) l1015 := by kernel_rfl
theorem f11_24_zero (n : Nat) (s : ByteArray) (x6 : Int) (x10 : Int) (k : Int) (b1008 : (Int × (Int × Int))) (l1015 : List (Int × (Int × Int))) : f11_24 n 0 s x6 x10 k b1008 l1015 = none := rfl
theorem f11_24_eq (n m : Nat) (s : ByteArray) (x6 : Int) (x10 : Int) (k : Int) (b1008 : (Int × (Int × Int))) (l1015 : List (Int × (Int × Int))) : f11_24 n (m + 1) s x6 x10 k b1008 l1015 =
  bif decide (k < x10) then
   bif x6 == ↑s.size then
    some ([], ↑s.size, (80 : Int))
   else
    (f25 n s (Go.IntKind.i64.wrap (x6 + (1 : Int)))).bind fun r1 =>
    (f27 n r1).bind fun r2 =>
    bif k == (0 : Int) then
     f11_45 n m s (Go.IntKind.i64.wrap (x6 + (1 : Int))) x10 k r1 r2.fst r2.snd (b1008.fst, r2.fst, b1008.snd.snd) l1015
    else
     f11_45 n m s (Go.IntKind.i64.wrap (x6 + (1 : Int))) x10 k r1 r2.fst r2.snd (b1008.fst, b1008.snd.fst, r2.fst) l1015
  else
   bif decide ((l1015.length + [b1008].length) * (24 : Nat) ≤ Go.Rf.maxBytes) then
    bif x6 == ↑s.size then
     bif decide (↑(l1015 ++ [b1008]).length > (256 : Int)) then
      some ([], (256 : Int), (3 : Int))
     else
      some (l1015 ++ [b1008], (0 : Int), (0 : Int))
    else
     f11_10 n m s (Go.IntKind.i64.wrap (x6 + (1 : Int))) (l1015 ++ [b1008])
   else
    none := by kernel_rfl
theorem f11_45_zero (n : Nat) (s : ByteArray) (x6 : Int) (x10 : Int) (k : Int) (d : ByteArray) (x13 : Int) (ok : Bool) (b1008 : (Int × (Int × Int))) (l1015 : List (Int × (Int × Int))) : f11_45 n 0 s x6 x10 k d x13 ok b1008 l1015 = none := rfl
theorem f11_45_eq (n m : Nat) (s : ByteArray) (x6 : Int) (x10 : Int) (k : Int) (d : ByteArray) (x13 : Int) (ok : Bool) (b1008 : (Int × (Int × Int))) (l1015 : List (Int × (Int × Int))) : f11_45 n (m + 1) s x6 x10 k d x13 ok b1008 l1015 =
  bif ok then
   bif x10 == (2 : Int) then
    bif k == (0 : Int) then
     bif decide (x13 ≥ (0 : Int)) then
      f11_53 n m s x6 x10 k d (decide (x13 ≤ (3 : Int))) b1008 l1015
     else
      f11_53 n m s x6 x10 k d false b1008 l1015
    else
     bif ok then
      (f20 n b1008).bind fun r1 =>
      f11_53 n m s x6 x10 k d r1 b1008 l1015
     else
      f11_53 n m s x6 x10 k d ok b1008 l1015
   else
    bif ok then
     (f20 n b1008).bind fun r2 =>
     f11_53 n m s x6 x10 k d r2 b1008 l1015
    else
     f11_53 n m s x6 x10 k d ok b1008 l1015
  else
   bif ok then
    (f20 n b1008).bind fun r3 =>
    f11_53 n m s x6 x10 k d r3 b1008 l1015
   else
    f11_53 n m s x6 x10 k d ok b1008 l1015 := by kernel_rfl
theorem f11_53_zero (n : Nat) (s : ByteArray) (x6 : Int) (x10 : Int) (k : Int) (d : ByteArray) (ok : Bool) (b1008 : (Int × (Int × Int))) (l1015 : List (Int × (Int × Int))) : f11_53 n 0 s x6 x10 k d ok b1008 l1015 = none := rfl
theorem f11_53_eq (n m : Nat) (s : ByteArray) (x6 : Int) (x10 : Int) (k : Int) (d : ByteArray) (ok : Bool) (b1008 : (Int × (Int × Int))) (l1015 : List (Int × (Int × Int))) : f11_53 n (m + 1) s x6 x10 k d ok b1008 l1015 =
  bif !ok then
   some ([], x6, (80 : Int))
  else
   f11_24 n m s (Go.IntKind.i64.wrap (x6 + ↑d.size)) x10 (Go.IntKind.i64.wrap (k + (1 : Int))) b1008 l1015 := by kernel_rfl
theorem f11_eq (n : Nat) (s : ByteArray) : f11 n s =
  bif s.toList == ByteArray.empty.toList then
   some ([], (0 : Int), (0 : Int))
  else
   f11_10 n n s (0 : Int) [] := by kernel_rfl
/- convoy/convoylaw08.same -/
noncomputable def c12 : Cfg := ⟨12, Tryd.f12, [(.sl 55 (.agg (.pair (.int .i64) (.pair (.int .i64) (.int .i64))))), (.sl 66 (.agg (.pair (.int .i64) (.pair (.int .i64) (.int .i64)))))], [.bool], 5, [], [(8, ⟨26, 5, [(0, (.val (.sl 55 (.agg (.pair (.int .i64) (.pair (.int .i64) (.int .i64))))))), (1, (.val (.sl 66 (.agg (.pair (.int .i64) (.pair (.int .i64) (.int .i64))))))), (12, (.val (.int .i64))), (13, (.val (.int .i64)))], []⟩)]⟩
noncomputable def T12 (_ : Nat) : Tab := ⟨[], []⟩
noncomputable def e12 (n : Nat) : Entry := c12.entry Tryd.prog (T12 n) n
theorem ok12 {W0 : World} (n : Nat) : FnOK Tryd.prog W0 (e12 n) := c12.sound .nil n Tryd.func12 (by kernel_rfl) (by kernel_rfl)
noncomputable def f12 (n : Nat) (a : List (Int × (Int × Int))) (b : List (Int × (Int × Int))) : Option (Bool) := c12.f Tryd.prog (T12 n) n (a, b)
noncomputable def f12_8 (n m : Nat) (a : List (Int × (Int × Int))) (b : List (Int × (Int × Int))) (x12 : Int) (x13 : Int) : Option (Bool) := c12.LL Tryd.prog (T12 n) m 8 (a, b, x12, x13) ()
theorem f12_8_zero (n : Nat) (a : List (Int × (Int × Int))) (b : List (Int × (Int × Int))) (x12 : Int) (x13 : Int) : f12_8 n 0 a b x12 x13 = none := rfl
theorem f12_8_eq (n m : Nat) (a : List (Int × (Int × Int))) (b : List (Int × (Int × Int))) (x12 : Int) (x13 : Int) : f12_8 n (m + 1) a b x12 x13 =
  bif decide (x13 < x12) then
   bif decide ((0 : Int) ≤ x13 ∧ x13 < ↑a.length) then
    bif decide ((0 : Int) ≤ x13 ∧ x13 < ↑b.length) then
     bif !((a.getD x13.toNat ((0 : Int), (0 : Int), (0 : Int))).fst == (b.getD x13.toNat ((0 : Int), (0 : Int), (0 : Int))).fst && ((a.getD x13.toNat ((0 : Int), (0 : Int), (0 : Int))).snd.fst == (b.getD x13.toNat ((0 : Int), (0 : Int), (0 : Int))).snd.fst && (a.getD x13.toNat ((0 : Int), (0 : Int), (0 : Int))).snd.snd == (b.getD x13.toNat ((0 : Int), (0 : Int), (0 : Int))).snd.snd)) then
      some false
     else
      f12_8 n m a b x12 (Go.IntKind.i64.wrap (x13 + (1 : Int)))
    else
     none
   else
    none
  else
   some true := by kernel_rfl
theorem f12_eq (n : Nat) (a : List (Int × (Int × Int))) (b : List (Int × (Int × Int))) : f12 n a b =
  bif (↑a.length : Int) != ↑b.length then
   some false
  else
   f12_8 n n a b ↑a.length (0 : Int) := by kernel_rfl
noncomputable def s17x0 : ByteArray := { data := #[97, 100, 100] }
noncomputable def s17x1 : ByteArray := { data := #[115, 104, 105, 102, 116] }
noncomputable def s17x2 : ByteArray := { data := #[107, 101, 121] }
noncomputable def s17x3 : ByteArray := { data := #[114, 117, 110] }
noncomputable def s17x4 : ByteArray := { data := #[116, 117, 114, 110] }
noncomputable def s17x5 : ByteArray := { data := #[103, 97, 116, 101] }
noncomputable def s17x6 : ByteArray := { data := #[115, 108, 101, 101, 112] }
noncomputable def s17x7 : ByteArray := { data := #[104, 101, 101, 100] }
noncomputable def s17x8 : ByteArray := { data := #[115, 107, 105, 112] }
noncomputable def s17x9 : ByteArray := { data := #[97, 110, 115, 119, 101, 114] }
noncomputable def s17x10 : ByteArray := { data := #[102, 97, 105, 108] }
noncomputable def s17x11 : ByteArray := { data := #[112, 97, 110, 105, 99] }
/- convoy/recipe.forms -/
noncomputable def c17 : Cfg := ⟨17, Tryd.f17, [], [(.sl 62 (.agg (.pair .str (.pair (.int .i64) (.int .i64)))))], 4, [], []⟩
noncomputable def T17 (_ : Nat) : Tab := ⟨[], []⟩
noncomputable def e17 (n : Nat) : Entry := c17.entry Tryd.prog (T17 n) n
theorem ok17 {W0 : World} (n : Nat) : FnOK Tryd.prog W0 (e17 n) := c17.sound .nil n Tryd.func17 (by kernel_rfl) (by kernel_rfl)
noncomputable def f17 (n : Nat) : Option (List (ByteArray × (Int × Int))) := c17.f Tryd.prog (T17 n) n ()
theorem f17_eq (n : Nat) : f17 n =
  some ([(s17x0, (1 : Int), (1 : Int)), (s17x1, (2 : Int), (1 : Int)), (s17x2, (3 : Int), (0 : Int)), (s17x3, (4 : Int), (0 : Int)), (s17x4, (5 : Int), (1 : Int)), (s17x5, (6 : Int), (1 : Int)), (s17x6, (7 : Int), (1 : Int)), (s17x7, (8 : Int), (0 : Int)), (s17x8, (9 : Int), (2 : Int)), (s17x9, (10 : Int), (0 : Int)), (s17x10, (11 : Int), (1 : Int)), (s17x11, (12 : Int), (1 : Int))]) := by kernel_rfl
/- (*convoy/recipe.parser).next -/
noncomputable def c39o : OCfg := ⟨39, Tryd.f39, ⟨47, 6, [(0, (.ptr 1 []))], [(1, .box (.agg (.pair (.val (.sl 9 .str)) (.val (.pair (.int .i64) (.int .i64))))))]⟩, [⟨3, 3, [(0, (.val .str)), (1, (.val (.int .i64))), (2, (.val .bool))], [(1, .box (.val (.agg (.pair (.sl 9 .str) (.pair (.int .i64) (.int .i64))))))]⟩], [], []⟩
noncomputable def T39o (_ : Nat) : Tab := ⟨[], []⟩
noncomputable def e39o (n : Nat) : OE := c39o.entry Tryd.prog (T39o n) n
theorem ok39o {W0 : World} (n : Nat) : OOK Tryd.prog W0 (e39o n) := c39o.sound .nil n Tryd.func39 (by kernel_rfl) (by kernel_rfl)
noncomputable def f39o (n : Nat) (b1a : List ByteArray) (b1b : (Int × Int)) : Option (((ByteArray × (Int × Bool)) × ((List ByteArray × (Int × Int)) × Unit))) := c39o.f Tryd.prog (T39o n) n () ((b1a, b1b), ())
theorem f39o_eq (n : Nat) (b1a : List ByteArray) (b1b : (Int × Int)) : f39o n b1a b1b =
  bif (↑b1a.length : Int) == (0 : Int) then
   some (((ByteArray.empty, b1b.snd, false), ((b1a, b1b), ())))
  else
   bif decide ((0 : Int) ≤ (0 : Int) ∧ (0 : Int) < ↑b1a.length) then
    bif decide ((0 : Int) ≤ (1 : Int) ∧ (1 : Int) ≤ ↑b1a.length ∧ (↑b1a.length : Int) ≤ ↑b1a.length) then
     some (((b1a.getD (0 : Nat) ByteArray.empty, b1b.fst, true), ((List.drop (1 : Nat) (List.take (↑b1a.length : Int).toNat b1a), Go.IntKind.i64.wrap (b1b.fst + Go.IntKind.i64.wrap (↑(ByteArray.size (b1a.getD (0 : Nat) ByteArray.empty)) + (1 : Int))), b1b.snd), ())))
    else
     none
   else
    none := by kernel_rfl
/- convoy/recipe.mayBe -/
noncomputable def c41 : Cfg := ⟨41, Tryd.f41, [(.agg (.pair (.int .i64) (.pair (.int .i64) (.int .i64)))), (.int .i64)], [.bool], 4, [], []⟩
noncomputable def T41 (n : Nat) : Tab := ⟨[e33 n], []⟩
noncomputable def e41 (n : Nat) : Entry := c41.entry Tryd.prog (T41 n) n
theorem ok41 {W0 : World} (n : Nat) : FnOK Tryd.prog W0 (e41 n) := c41.sound (.cons (ok33 n) .nil) n Tryd.func41 (by kernel_rfl) (by kernel_rfl)
noncomputable def f41 (n : Nat) (s : (Int × (Int × Int))) (i : Int) : Option (Bool) := c41.f Tryd.prog (T41 n) n (s, i)
theorem f41_eq (n : Nat) (s : (Int × (Int × Int))) (i : Int) : f41 n s i =
  bif s.fst == (9 : Int) then
   bif i == (0 : Int) then
    (f33 n (s.fst, s.snd.fst, (1 : Int))).bind fun r1 =>
    some r1
   else
    (f33 n s).bind fun r2 =>
    some r2
  else
   (f33 n s).bind fun r3 =>
   some r3 := by kernel_rfl
end Go.Proofs.YtfmbgnbdolidjaaDoor
