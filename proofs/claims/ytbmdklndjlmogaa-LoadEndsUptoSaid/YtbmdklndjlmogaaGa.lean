/- What functions compute: printed, and checked by the kernel. -/
import Derived.Test.YtbmdklndjlmogaaRfT
import Derived.Test.YtbmdklndjlmogaaProg
namespace Go.Proofs.Ytbmdklndjlmogaa
open Go.Rf
/- convoy/key.Check -/
noncomputable def c26 : Cfg := ⟨26, Try.f26, [(.agg (.pair (.int .u16) .str))], [(.int .i64)], 3, [], []⟩
noncomputable def T26 (_ : Nat) : Tab := ⟨[], []⟩
noncomputable def e26 (n : Nat) : Entry := c26.entry Try.prog (T26 n) n
theorem ok26 (n : Nat) : FnOK Try.prog (e26 n) := c26.sound .nil n Try.func26 (by kernel_rfl) (by kernel_rfl)
noncomputable def f26 (n : Nat) (k : (Int × ByteArray)) : Option (Int) := c26.f Try.prog (T26 n) n k
theorem f26_eq (n : Nat) (k : (Int × ByteArray)) : f26 n k =
  bif decide (↑(ByteArray.size k.snd) > (64 : Int)) then
   some (20 : Int)
  else
   some (0 : Int) := by kernel_rfl
/- convoy/tick.Is -/
noncomputable def c57 : Cfg := ⟨57, Try.f57, [(.int .i64)], [.bool], 4, [], []⟩
noncomputable def T57 (_ : Nat) : Tab := ⟨[], []⟩
noncomputable def e57 (n : Nat) : Entry := c57.entry Try.prog (T57 n) n
theorem ok57 (n : Nat) : FnOK Try.prog (e57 n) := c57.sound .nil n Try.func57 (by kernel_rfl) (by kernel_rfl)
noncomputable def f57 (n : Nat) (t : Int) : Option (Bool) := c57.f Try.prog (T57 n) n t
theorem f57_eq (n : Nat) (t : Int) : f57 n t =
  bif decide (t ≥ (0 : Int)) then
   some (decide (t ≤ (4611686018427387904 : Int)))
  else
   some false := by kernel_rfl
/- convoy/recipe.may -/
noncomputable def c43 : Cfg := ⟨43, Try.f43, [(.agg (.pair (.int .i64) (.pair (.int .i64) (.int .i64))))], [.bool], 7, [], []⟩
noncomputable def T43 (n : Nat) : Tab := ⟨[e57 n], []⟩
noncomputable def e43 (n : Nat) : Entry := c43.entry Try.prog (T43 n) n
theorem ok43 (n : Nat) : FnOK Try.prog (e43 n) := c43.sound (.cons (ok57 n) .nil) n Try.func43 (by kernel_rfl) (by kernel_rfl)
noncomputable def f43 (n : Nat) (s : (Int × (Int × Int))) : Option (Bool) := c43.f Try.prog (T43 n) n s
theorem f43_eq (n : Nat) (s : (Int × (Int × Int))) : f43 n s =
  bif s.fst == (1 : Int) then
   bif s.fst == (1 : Int) then
    some (s.snd.snd == (0 : Int))
   else
    bif s.fst == (2 : Int) then
     bif s.snd.snd == (0 : Int) then
      bif decide (s.snd.fst ≥ (-63 : Int)) then
       some (decide (s.snd.fst ≤ (63 : Int)))
      else
       some false
     else
      some false
    else
     bif s.fst == (5 : Int) then
      bif s.snd.snd == (0 : Int) then
       bif decide (s.snd.fst ≥ (0 : Int)) then
        some (decide (s.snd.fst ≤ (63 : Int)))
       else
        some false
      else
       some false
     else
      bif s.fst == (6 : Int) then
       bif s.snd.snd == (0 : Int) then
        bif decide (s.snd.fst ≥ (0 : Int)) then
         some (decide (s.snd.fst < (256 : Int)))
        else
         some false
       else
        some false
      else
       bif s.fst == (7 : Int) then
        bif s.snd.snd == (0 : Int) then
         (f57 n s.snd.fst).bind fun r1 =>
         some r1
        else
         some false
       else
        bif s.fst == (9 : Int) then
         bif decide (s.snd.fst ≥ (0 : Int)) then
          bif decide (s.snd.fst ≤ (3 : Int)) then
           bif decide (s.snd.snd ≥ (1 : Int)) then
            some (decide (s.snd.snd ≤ (256 : Int)))
           else
            some false
          else
           some false
         else
          some false
        else
         bif s.fst == (3 : Int) then
          bif s.fst == (3 : Int) then
           bif s.snd.fst == (0 : Int) then
            some (s.snd.snd == (0 : Int))
           else
            some false
          else
           some false
         else
          bif s.fst == (4 : Int) then
           bif s.fst == (4 : Int) then
            bif s.snd.fst == (0 : Int) then
             some (s.snd.snd == (0 : Int))
            else
             some false
           else
            some false
          else
           bif s.fst == (8 : Int) then
            bif s.fst == (8 : Int) then
             bif s.snd.fst == (0 : Int) then
              some (s.snd.snd == (0 : Int))
             else
              some false
            else
             some false
           else
            bif s.fst == (10 : Int) then
             bif s.snd.fst == (0 : Int) then
              some (s.snd.snd == (0 : Int))
             else
              some false
            else
             some false
  else
   bif s.fst == (11 : Int) then
    bif s.fst == (11 : Int) then
     some (s.snd.snd == (0 : Int))
    else
     bif s.fst == (2 : Int) then
      bif s.snd.snd == (0 : Int) then
       bif decide (s.snd.fst ≥ (-63 : Int)) then
        some (decide (s.snd.fst ≤ (63 : Int)))
       else
        some false
      else
       some false
     else
      bif s.fst == (5 : Int) then
       bif s.snd.snd == (0 : Int) then
        bif decide (s.snd.fst ≥ (0 : Int)) then
         some (decide (s.snd.fst ≤ (63 : Int)))
        else
         some false
       else
        some false
      else
       bif s.fst == (6 : Int) then
        bif s.snd.snd == (0 : Int) then
         bif decide (s.snd.fst ≥ (0 : Int)) then
          some (decide (s.snd.fst < (256 : Int)))
         else
          some false
        else
         some false
       else
        bif s.fst == (7 : Int) then
         bif s.snd.snd == (0 : Int) then
          (f57 n s.snd.fst).bind fun r2 =>
          some r2
         else
          some false
        else
         bif s.fst == (9 : Int) then
          bif decide (s.snd.fst ≥ (0 : Int)) then
           bif decide (s.snd.fst ≤ (3 : Int)) then
            bif decide (s.snd.snd ≥ (1 : Int)) then
             some (decide (s.snd.snd ≤ (256 : Int)))
            else
             some false
           else
            some false
          else
           some false
         else
          bif s.fst == (3 : Int) then
           bif s.fst == (3 : Int) then
            bif s.snd.fst == (0 : Int) then
             some (s.snd.snd == (0 : Int))
            else
             some false
           else
            some false
          else
           bif s.fst == (4 : Int) then
            bif s.fst == (4 : Int) then
             bif s.snd.fst == (0 : Int) then
              some (s.snd.snd == (0 : Int))
             else
              some false
            else
             some false
           else
            bif s.fst == (8 : Int) then
             bif s.fst == (8 : Int) then
              bif s.snd.fst == (0 : Int) then
               some (s.snd.snd == (0 : Int))
              else
               some false
             else
              some false
            else
             bif s.fst == (10 : Int) then
              bif s.snd.fst == (0 : Int) then
               some (s.snd.snd == (0 : Int))
              else
               some false
             else
              some false
   else
    bif s.fst == (12 : Int) then
     some (s.snd.snd == (0 : Int))
    else
     bif s.fst == (2 : Int) then
      bif s.snd.snd == (0 : Int) then
       bif decide (s.snd.fst ≥ (-63 : Int)) then
        some (decide (s.snd.fst ≤ (63 : Int)))
       else
        some false
      else
       some false
     else
      bif s.fst == (5 : Int) then
       bif s.snd.snd == (0 : Int) then
        bif decide (s.snd.fst ≥ (0 : Int)) then
         some (decide (s.snd.fst ≤ (63 : Int)))
        else
         some false
       else
        some false
      else
       bif s.fst == (6 : Int) then
        bif s.snd.snd == (0 : Int) then
         bif decide (s.snd.fst ≥ (0 : Int)) then
          some (decide (s.snd.fst < (256 : Int)))
         else
          some false
        else
         some false
       else
        bif s.fst == (7 : Int) then
         bif s.snd.snd == (0 : Int) then
          (f57 n s.snd.fst).bind fun r3 =>
          some r3
         else
          some false
        else
         bif s.fst == (9 : Int) then
          bif decide (s.snd.fst ≥ (0 : Int)) then
           bif decide (s.snd.fst ≤ (3 : Int)) then
            bif decide (s.snd.snd ≥ (1 : Int)) then
             some (decide (s.snd.snd ≤ (256 : Int)))
            else
             some false
           else
            some false
          else
           some false
         else
          bif s.fst == (3 : Int) then
           bif s.fst == (3 : Int) then
            bif s.snd.fst == (0 : Int) then
             some (s.snd.snd == (0 : Int))
            else
             some false
           else
            some false
          else
           bif s.fst == (4 : Int) then
            bif s.fst == (4 : Int) then
             bif s.snd.fst == (0 : Int) then
              some (s.snd.snd == (0 : Int))
             else
              some false
            else
             some false
           else
            bif s.fst == (8 : Int) then
             bif s.fst == (8 : Int) then
              bif s.snd.fst == (0 : Int) then
               some (s.snd.snd == (0 : Int))
              else
               some false
             else
              some false
            else
             bif s.fst == (10 : Int) then
              bif s.snd.fst == (0 : Int) then
               some (s.snd.snd == (0 : Int))
              else
               some false
             else
              some false := by kernel_rfl
/- convoy/recipe.Check$1 -/
noncomputable def c42 : Cfg := ⟨42, Try.f42, [(.agg (.pair (.int .i64) (.pair (.int .i64) (.int .i64))))], [.bool], 3, [], []⟩
noncomputable def T42 (n : Nat) : Tab := ⟨[e43 n], []⟩
noncomputable def e42 (n : Nat) : Entry := c42.entry Try.prog (T42 n) n
theorem ok42 (n : Nat) : FnOK Try.prog (e42 n) := c42.sound (.cons (ok43 n) .nil) n Try.func42 (by kernel_rfl) (by kernel_rfl)
noncomputable def f42 (n : Nat) (s : (Int × (Int × Int))) : Option (Bool) := c42.f Try.prog (T42 n) n s
theorem f42_eq (n : Nat) (s : (Int × (Int × Int))) : f42 n s =
  (f43 n s).bind fun r1 =>
  some !r1 := by kernel_rfl
/- slices.IndexFunc[[]convoy/api.Step,convoy/api.Step] -/
noncomputable def c41a : Cfg := ⟨41, Try.f41, [(.sl 35 (.agg (.pair (.int .i64) (.pair (.int .i64) (.int .i64))))), (.fn 42)], [(.int .i64)], 5, [], [(4, ⟨19, 5, [(0, (.val (.sl 35 (.agg (.pair (.int .i64) (.pair (.int .i64) (.int .i64))))))), (1, (.val (.fn 42))), (7, (.val (.int .i64))), (8, (.val (.int .i64)))], []⟩)]⟩
noncomputable def T41a (n : Nat) : Tab := ⟨[e42 n], []⟩
noncomputable def e41a (n : Nat) : Entry := c41a.entry Try.prog (T41a n) n
theorem ok41a (n : Nat) : FnOK Try.prog (e41a n) := c41a.sound (.cons (ok42 n) .nil) n Try.func41 (by kernel_rfl) (by kernel_rfl)
noncomputable def f41a (n : Nat) (s : List (Int × (Int × Int))) (f : Unit) : Option (Int) := c41a.f Try.prog (T41a n) n (s, f)
noncomputable def f41a_4 (n m : Nat) (s : List (Int × (Int × Int))) (f : Unit) (x7 : Int) (x8 : Int) : Option (Int) := c41a.LL Try.prog (T41a n) m 4 (s, f, x7, x8) ()
theorem f41a_4_zero (n : Nat) (s : List (Int × (Int × Int))) (f : Unit) (x7 : Int) (x8 : Int) : f41a_4 n 0 s f x7 x8 = none := rfl
theorem f41a_4_eq (n m : Nat) (s : List (Int × (Int × Int))) (f : Unit) (x7 : Int) (x8 : Int) : f41a_4 n (m + 1) s f x7 x8 =
  bif decide (x8 < x7) then
   bif decide ((0 : Int) ≤ x8 ∧ x8 < ↑s.length) then
    (f42 n (s.getD x8.toNat ((0 : Int), (0 : Int), (0 : Int)))).bind fun r1 =>
    bif r1 then
     some x8
    else
     f41a_4 n m s () x7 (Go.IntKind.i64.wrap (x8 + (1 : Int)))
   else
    none
  else
   some (-1 : Int) := by kernel_rfl
theorem f41a_eq (n : Nat) (s : List (Int × (Int × Int))) (f : Unit) : f41a n s f =
  f41a_4 n n s () ↑s.length (0 : Int) := by kernel_rfl
/- convoy/recipe.Check -/
noncomputable def c27 : Cfg := ⟨27, Try.f27, [(.sl 35 (.agg (.pair (.int .i64) (.pair (.int .i64) (.int .i64)))))], [(.int .i64), (.int .i64)], 4, [], []⟩
noncomputable def T27 (n : Nat) : Tab := ⟨[e41a n, e42 n], []⟩
noncomputable def e27 (n : Nat) : Entry := c27.entry Try.prog (T27 n) n
theorem ok27 (n : Nat) : FnOK Try.prog (e27 n) := c27.sound (.cons (ok41a n) (.cons (ok42 n) .nil)) n Try.func27 (by kernel_rfl) (by kernel_rfl)
noncomputable def f27 (n : Nat) (l : List (Int × (Int × Int))) : Option (Int × Int) := c27.f Try.prog (T27 n) n l
theorem f27_eq (n : Nat) (l : List (Int × (Int × Int))) : f27 n l =
  bif decide (↑l.length > (256 : Int)) then
   some ((256 : Int), (3 : Int))
  else
   (f41a n l ()).bind fun r1 =>
   bif decide (r1 ≥ (0 : Int)) then
    some (r1, (80 : Int))
   else
    some ((0 : Int), (0 : Int)) := by kernel_rfl
/- convoy/recipe.failed -/
noncomputable def c54 : Cfg := ⟨54, Try.f54, [(.int .i64), (.int .i64), (.agg (.pair (.agg (.pair (.int .u16) .str)) (.pair (.int .i64) .bool)))], [(.agg (.pair (.int .i64) (.agg (.pair (.int .i64) (.pair (.int .i64) (.int .i64))))))], 4, [], []⟩
noncomputable def T54 (_ : Nat) : Tab := ⟨[], []⟩
noncomputable def e54 (n : Nat) : Entry := c54.entry Try.prog (T54 n) n
theorem ok54 (n : Nat) : FnOK Try.prog (e54 n) := c54.sound .nil n Try.func54 (by kernel_rfl) (by kernel_rfl)
noncomputable def f54 (n : Nat) (kind : Int) (code : Int) (x : ((Int × ByteArray) × (Int × Bool))) : Option ((Int × (Int × (Int × Int)))) := c54.f Try.prog (T54 n) n (kind, code, x)
theorem f54_eq (n : Nat) (kind : Int) (code : Int) (x : ((Int × ByteArray) × (Int × Bool))) : f54 n kind code x =
  some (((0 : Int), kind, code, x.snd.fst)) := by kernel_rfl
/- convoy/recipe.skips -/
noncomputable def c55 : Cfg := ⟨55, Try.f55, [(.int .i64), (.int .i64), (.agg (.pair (.agg (.pair (.int .u16) .str)) (.pair (.int .i64) .bool)))], [.bool], 5, [], []⟩
noncomputable def T55 (_ : Nat) : Tab := ⟨[], []⟩
noncomputable def e55 (n : Nat) : Entry := c55.entry Try.prog (T55 n) n
theorem ok55 (n : Nat) : FnOK Try.prog (e55 n) := c55.sound .nil n Try.func55 (by kernel_rfl) (by kernel_rfl)
noncomputable def f55 (n : Nat) (how : Int) (a1 : Int) (x : ((Int × ByteArray) × (Int × Bool))) : Option (Bool) := c55.f Try.prog (T55 n) n (how, a1, x)
theorem f55_eq (n : Nat) (how : Int) (a1 : Int) (x : ((Int × ByteArray) × (Int × Bool))) : f55 n how a1 x =
  bif how == (0 : Int) then
   some (a1 == (0 : Int))
  else
   bif how == (1 : Int) then
    some (decide (a1 < (0 : Int)))
   else
    bif how == (2 : Int) then
     some (Go.IntKind.i64.wrap ↑(BitVec.ofInt (64 : Nat) a1 &&& BitVec.ofInt (64 : Nat) (1 : Int)).toNat == (1 : Int))
    else
     some x.snd.snd := by kernel_rfl
/- convoy/recipe.shifted -/
noncomputable def c64 : Cfg := ⟨64, Try.f64, [(.int .i64), (.int .i64)], [(.int .i64)], 4, [], []⟩
noncomputable def T64 (_ : Nat) : Tab := ⟨[], []⟩
noncomputable def e64 (n : Nat) : Entry := c64.entry Try.prog (T64 n) n
theorem ok64 (n : Nat) : FnOK Try.prog (e64 n) := c64.sound .nil n Try.func64 (by kernel_rfl) (by kernel_rfl)
noncomputable def f64 (n : Nat) (a0 : Int) (a1 : Int) : Option (Int) := c64.f Try.prog (T64 n) n (a0, a1)
theorem f64_eq (n : Nat) (a0 : Int) (a1 : Int) : f64 n a0 a1 =
  bif decide (a1 < (0 : Int)) then
   bif decide (Go.IntKind.u64.wrap (Go.IntKind.i64.wrap ((0 : Int) - a1)) < (0 : Int)) then
    none
   else
    some (a0.fdiv ((2 : Int) ^ Min.min (Go.IntKind.u64.wrap (Go.IntKind.i64.wrap ((0 : Int) - a1))).toNat (64 : Nat)))
  else
   bif decide (Go.IntKind.u64.wrap a1 < (0 : Int)) then
    none
   else
    some (Go.IntKind.i64.wrap (a0 * (2 : Int) ^ Min.min (Go.IntKind.u64.wrap a1).toNat (64 : Nat))) := by kernel_rfl
/- convoy/key.told -/
noncomputable def c71 : Cfg := ⟨71, Try.f71, [(.agg (.pair (.int .u16) .str))], [.str], 5, [], []⟩
noncomputable def T71 (_ : Nat) : Tab := ⟨[], []⟩
noncomputable def e71 (n : Nat) : Entry := c71.entry Try.prog (T71 n) n
theorem ok71 (n : Nat) : FnOK Try.prog (e71 n) := c71.sound .nil n Try.func71 (by kernel_rfl) (by kernel_rfl)
noncomputable def f71 (n : Nat) (k : (Int × ByteArray)) : Option (ByteArray) := c71.f Try.prog (T71 n) n k
theorem f71_eq (n : Nat) (k : (Int × ByteArray)) : f71 n k =
  bif decide (↑((Go.Rf.mkBytes [Go.IntKind.u8.wrap k.fst, Go.IntKind.u8.wrap (Int.fdiv k.fst ((2 : Int) ^ (8 : Nat))), Go.IntKind.u8.wrap ↑(ByteArray.size k.snd)]).size + ByteArray.size k.snd) > Int.ofNat (9223372036854775807 : Nat)) then
   none
  else
   some (Go.Rf.mkBytes [Go.IntKind.u8.wrap k.fst, Go.IntKind.u8.wrap (Int.fdiv k.fst ((2 : Int) ^ (8 : Nat))), Go.IntKind.u8.wrap ↑(ByteArray.size k.snd)] ++ k.snd) := by kernel_rfl
/- convoy/key.Hash -/
noncomputable def c65 : Cfg := ⟨65, Try.f65, [(.agg (.pair (.int .u16) .str))], [(.int .u64)], 5, [], [(8, ⟨31, 5, [(3, (.val (.int .u64))), (4, (.val .str)), (9, (.val (.int .i64))), (10, (.val (.int .i64)))], []⟩)]⟩
noncomputable def T65 (n : Nat) : Tab := ⟨[e71 n], []⟩
noncomputable def e65 (n : Nat) : Entry := c65.entry Try.prog (T65 n) n
theorem ok65 (n : Nat) : FnOK Try.prog (e65 n) := c65.sound (.cons (ok71 n) .nil) n Try.func65 (by kernel_rfl) (by kernel_rfl)
noncomputable def f65 (n : Nat) (k : (Int × ByteArray)) : Option (Int) := c65.f Try.prog (T65 n) n k
noncomputable def f65_8 (n m : Nat) (h : Int) (s : ByteArray) (x9 : Int) (x10 : Int) : Option (Int) := c65.LL Try.prog (T65 n) m 8 (h, s, x9, x10) ()
theorem f65_8_zero (n : Nat) (h : Int) (s : ByteArray) (x9 : Int) (x10 : Int) : f65_8 n 0 h s x9 x10 = none := rfl
theorem f65_8_eq (n m : Nat) (h : Int) (s : ByteArray) (x9 : Int) (x10 : Int) : f65_8 n (m + 1) h s x9 x10 =
  bif decide (x10 < x9) then
   bif decide ((0 : Int) ≤ x10 ∧ x10 < ↑s.size) then
    f65_8 n m (Go.IntKind.u64.wrap (Go.IntKind.u64.wrap ↑(BitVec.ofInt (64 : Nat) h ^^^ BitVec.ofInt (64 : Nat) (Go.IntKind.u64.wrap (Go.Rf.byteAt s x10))).toNat * (1099511628211 : Int))) s x9 (Go.IntKind.i64.wrap (x10 + (1 : Int)))
   else
    none
  else
   some (Go.IntKind.u64.wrap ↑(BitVec.ofInt (64 : Nat) (Go.IntKind.u64.wrap (Go.IntKind.u64.wrap ↑(BitVec.ofInt (64 : Nat) h ^^^ BitVec.ofInt (64 : Nat) (h.fdiv ((2 : Int) ^ (32 : Nat)))).toNat * (11400714819323198485 : Int))) ^^^ BitVec.ofInt (64 : Nat) ((Go.IntKind.u64.wrap (Go.IntKind.u64.wrap ↑(BitVec.ofInt (64 : Nat) h ^^^ BitVec.ofInt (64 : Nat) (h.fdiv ((2 : Int) ^ (32 : Nat)))).toNat * (11400714819323198485 : Int))).fdiv ((2 : Int) ^ (29 : Nat)))).toNat) := by kernel_rfl
theorem f65_eq (n : Nat) (k : (Int × ByteArray)) : f65 n k =
  (f71 n k).bind fun r1 =>
  f65_8 n n (14695981039346656037 : Int) r1 (↑(ByteArray.size r1)) (0 : Int) := by kernel_rfl
/- math/bits.RotateLeft64 -/
noncomputable def c66 : Cfg := ⟨66, Try.f66, [(.int .u64), (.int .i64)], [(.int .u64)], 5, [], []⟩
noncomputable def T66 (_ : Nat) : Tab := ⟨[], []⟩
noncomputable def e66 (n : Nat) : Entry := c66.entry Try.prog (T66 n) n
theorem ok66 (n : Nat) : FnOK Try.prog (e66 n) := c66.sound .nil n Try.func66 (by kernel_rfl) (by kernel_rfl)
noncomputable def f66 (n : Nat) (x : Int) (k : Int) : Option (Int) := c66.f Try.prog (T66 n) n (x, k)
theorem f66_eq (n : Nat) (x : Int) (k : Int) : f66 n x k =
  bif decide (Go.IntKind.u64.wrap ((64 : Int) - Go.IntKind.u64.wrap ↑(BitVec.ofInt (64 : Nat) (Go.IntKind.u64.wrap k) &&& BitVec.ofInt (64 : Nat) (63 : Int)).toNat) < (0 : Int)) then
   none
  else
   some (Go.IntKind.u64.wrap ↑(BitVec.ofInt (64 : Nat) (Go.IntKind.u64.wrap (x * (2 : Int) ^ Min.min (Go.IntKind.u64.wrap ↑(BitVec.ofInt (64 : Nat) (Go.IntKind.u64.wrap k) &&& BitVec.ofInt (64 : Nat) (63 : Int)).toNat).toNat (64 : Nat))) ||| BitVec.ofInt (64 : Nat) (x.fdiv ((2 : Int) ^ Min.min (Go.IntKind.u64.wrap ((64 : Int) - Go.IntKind.u64.wrap ↑(BitVec.ofInt (64 : Nat) (Go.IntKind.u64.wrap k) &&& BitVec.ofInt (64 : Nat) (63 : Int)).toNat)).toNat (64 : Nat)))).toNat) := by kernel_rfl
/- convoy/recipe.worked -/
noncomputable def c56 : Cfg := ⟨56, Try.f56, [(.agg (.pair (.int .i64) (.pair (.int .i64) (.int .i64)))), (.int .i64), (.agg (.pair (.agg (.pair (.int .u16) .str)) (.pair (.int .i64) .bool)))], [(.int .i64)], 6, [], []⟩
noncomputable def T56 (n : Nat) : Tab := ⟨[e64 n, e65 n, e66 n], []⟩
noncomputable def e56 (n : Nat) : Entry := c56.entry Try.prog (T56 n) n
theorem ok56 (n : Nat) : FnOK Try.prog (e56 n) := c56.sound (.cons (ok64 n) (.cons (ok65 n) (.cons (ok66 n) .nil))) n Try.func56 (by kernel_rfl) (by kernel_rfl)
noncomputable def f56 (n : Nat) (s : (Int × (Int × Int))) (a1 : Int) (x : ((Int × ByteArray) × (Int × Bool))) : Option (Int) := c56.f Try.prog (T56 n) n (s, a1, x)
theorem f56_eq (n : Nat) (s : (Int × (Int × Int))) (a1 : Int) (x : ((Int × ByteArray) × (Int × Bool))) : f56 n s a1 x =
  bif s.fst == (1 : Int) then
   some (Go.IntKind.i64.wrap (a1 + s.snd.fst))
  else
   bif s.fst == (2 : Int) then
    (f64 n a1 s.snd.fst).bind fun r1 =>
    some r1
   else
    bif s.fst == (3 : Int) then
     (f65 n x.fst).bind fun r2 =>
     some (Go.IntKind.i64.wrap ↑(BitVec.ofInt (64 : Nat) a1 ^^^ BitVec.ofInt (64 : Nat) (Go.IntKind.i64.wrap r2)).toNat)
    else
     bif s.fst == (4 : Int) then
      some (Go.IntKind.i64.wrap (a1 + x.snd.fst))
     else
      bif s.fst == (5 : Int) then
       (f66 n (Go.IntKind.u64.wrap a1) s.snd.fst).bind fun r3 =>
       some (Go.IntKind.i64.wrap r3)
      else
       some a1 := by kernel_rfl
/- convoy/recipe.one -/
noncomputable def c39 : Cfg := ⟨39, Try.f39, [(.sl 35 (.agg (.pair (.int .i64) (.pair (.int .i64) (.int .i64))))), (.agg (.pair (.int .i64) (.pair (.int .i64) (.pair (.int .i64) (.int .i64))))), (.agg (.pair (.agg (.pair (.int .u16) .str)) (.pair (.int .i64) .bool)))], [(.agg (.pair (.int .i64) (.pair (.int .i64) (.pair (.int .i64) (.int .i64))))), (.agg (.pair (.int .i64) (.agg (.pair (.int .i64) (.pair (.int .i64) (.int .i64)))))), .bool], 7, [], []⟩
noncomputable def T39 (n : Nat) : Tab := ⟨[e54 n, e55 n, e56 n], []⟩
noncomputable def e39 (n : Nat) : Entry := c39.entry Try.prog (T39 n) n
theorem ok39 (n : Nat) : FnOK Try.prog (e39 n) := c39.sound (.cons (ok54 n) (.cons (ok55 n) (.cons (ok56 n) .nil))) n Try.func39 (by kernel_rfl) (by kernel_rfl)
noncomputable def f39 (n : Nat) (l : List (Int × (Int × Int))) (c : (Int × (Int × (Int × Int)))) (x : ((Int × ByteArray) × (Int × Bool))) : Option ((Int × (Int × (Int × Int))) × (Int × (Int × (Int × Int))) × Bool) := c39.f Try.prog (T39 n) n (l, c, x)
theorem f39_eq (n : Nat) (l : List (Int × (Int × Int))) (c : (Int × (Int × (Int × Int)))) (x : ((Int × ByteArray) × (Int × Bool))) : f39 n l c x =
  bif c.fst == ↑l.length then
   some (((0 : Int), (0 : Int), (0 : Int), (0 : Int)), (c.snd.fst, (0 : Int), (0 : Int), (0 : Int)), true)
  else
   bif decide ((0 : Int) ≤ c.fst ∧ c.fst < ↑l.length) then
    bif (l.getD (Int.toNat c.fst) ((0 : Int), (0 : Int), (0 : Int))).fst == (10 : Int) then
     some (((0 : Int), (0 : Int), (0 : Int), (0 : Int)), (c.snd.fst, (0 : Int), (0 : Int), (0 : Int)), true)
    else
     bif (l.getD (Int.toNat c.fst) ((0 : Int), (0 : Int), (0 : Int))).fst == (11 : Int) then
      (f54 n (1 : Int) (l.getD (Int.toNat c.fst) ((0 : Int), (0 : Int), (0 : Int))).snd.fst x).bind fun r1 =>
      some (((0 : Int), (0 : Int), (0 : Int), (0 : Int)), r1, true)
     else
      bif (l.getD (Int.toNat c.fst) ((0 : Int), (0 : Int), (0 : Int))).fst == (12 : Int) then
       (f54 n (2 : Int) (l.getD (Int.toNat c.fst) ((0 : Int), (0 : Int), (0 : Int))).snd.fst x).bind fun r2 =>
       some (((0 : Int), (0 : Int), (0 : Int), (0 : Int)), r2, true)
      else
       bif (l.getD (Int.toNat c.fst) ((0 : Int), (0 : Int), (0 : Int))).fst == (8 : Int) then
        bif x.snd.snd then
         (f54 n (5 : Int) (0 : Int) x).bind fun r3 =>
         some (((0 : Int), (0 : Int), (0 : Int), (0 : Int)), r3, true)
        else
         some ((Go.IntKind.i64.wrap (c.fst + (1 : Int)), c.snd), ((0 : Int), (0 : Int), (0 : Int), (0 : Int)), false)
       else
        bif (l.getD (Int.toNat c.fst) ((0 : Int), (0 : Int), (0 : Int))).fst == (9 : Int) then
         (f55 n (l.getD (Int.toNat c.fst) ((0 : Int), (0 : Int), (0 : Int))).snd.fst c.snd.fst x).bind fun r4 =>
         bif r4 then
          some ((if Go.IntKind.i64.wrap (Go.IntKind.i64.wrap (c.fst + (1 : Int)) + (l.getD (Int.toNat c.fst) ((0 : Int), (0 : Int), (0 : Int))).snd.snd) < ↑l.length then Go.IntKind.i64.wrap (Go.IntKind.i64.wrap (c.fst + (1 : Int)) + (l.getD (Int.toNat c.fst) ((0 : Int), (0 : Int), (0 : Int))).snd.snd) else ↑l.length, c.snd), ((0 : Int), (0 : Int), (0 : Int), (0 : Int)), false)
         else
          some ((Go.IntKind.i64.wrap (c.fst + (1 : Int)), c.snd), ((0 : Int), (0 : Int), (0 : Int), (0 : Int)), false)
        else
         bif (l.getD (Int.toNat c.fst) ((0 : Int), (0 : Int), (0 : Int))).fst == (6 : Int) then
          some ((Go.IntKind.i64.wrap (c.fst + (1 : Int)), c.snd.fst, (1 : Int), (l.getD (Int.toNat c.fst) ((0 : Int), (0 : Int), (0 : Int))).snd.fst), ((0 : Int), (0 : Int), (0 : Int), (0 : Int)), false)
         else
          bif (l.getD (Int.toNat c.fst) ((0 : Int), (0 : Int), (0 : Int))).fst == (7 : Int) then
           some ((Go.IntKind.i64.wrap (c.fst + (1 : Int)), c.snd.fst, (2 : Int), (l.getD (Int.toNat c.fst) ((0 : Int), (0 : Int), (0 : Int))).snd.fst), ((0 : Int), (0 : Int), (0 : Int), (0 : Int)), false)
          else
           (f56 n (l.getD (Int.toNat c.fst) ((0 : Int), (0 : Int), (0 : Int))) c.snd.fst x).bind fun r5 =>
           some ((Go.IntKind.i64.wrap (c.fst + (1 : Int)), r5, c.snd.snd), ((0 : Int), (0 : Int), (0 : Int), (0 : Int)), false)
   else
    none := by kernel_rfl
/- convoy/recipe.right -/
noncomputable def c47 : Cfg := ⟨47, Try.f47, [(.sl 35 (.agg (.pair (.int .i64) (.pair (.int .i64) (.int .i64))))), (.agg (.pair (.int .i64) (.pair (.int .i64) (.pair (.int .i64) (.int .i64)))))], [(.int .i64)], 5, [], []⟩
noncomputable def T47 (n : Nat) : Tab := ⟨[e27 n], []⟩
noncomputable def e47 (n : Nat) : Entry := c47.entry Try.prog (T47 n) n
theorem ok47 (n : Nat) : FnOK Try.prog (e47 n) := c47.sound (.cons (ok27 n) .nil) n Try.func47 (by kernel_rfl) (by kernel_rfl)
noncomputable def f47 (n : Nat) (l : List (Int × (Int × Int))) (c : (Int × (Int × (Int × Int)))) : Option (Int) := c47.f Try.prog (T47 n) n (l, c)
theorem f47_eq (n : Nat) (l : List (Int × (Int × Int))) (c : (Int × (Int × (Int × Int)))) : f47 n l c =
  (f27 n l).bind fun r1 =>
  bif r1.snd != (0 : Int) then
   some (80 : Int)
  else
   bif decide (c.fst < (0 : Int)) then
    some (1 : Int)
   else
    bif decide (c.fst > ↑l.length) then
     some (1 : Int)
    else
     bif c.snd.snd.fst != (0 : Int) then
      some (1 : Int)
     else
      some (0 : Int) := by kernel_rfl
/- convoy/recipe.Do -/
noncomputable def c31 : Cfg := ⟨31, Try.f31, [(.sl 35 (.agg (.pair (.int .i64) (.pair (.int .i64) (.int .i64))))), (.agg (.pair (.int .i64) (.pair (.int .i64) (.pair (.int .i64) (.int .i64))))), (.agg (.pair (.agg (.pair (.int .u16) .str)) (.pair (.int .i64) .bool)))], [(.agg (.pair (.int .i64) (.pair (.int .i64) (.pair (.int .i64) (.int .i64))))), (.agg (.pair (.int .i64) (.agg (.pair (.int .i64) (.pair (.int .i64) (.int .i64)))))), .bool, (.int .i64)], 6, [], []⟩
noncomputable def T31 (n : Nat) : Tab := ⟨[e47 n, e39 n], []⟩
noncomputable def e31 (n : Nat) : Entry := c31.entry Try.prog (T31 n) n
theorem ok31 (n : Nat) : FnOK Try.prog (e31 n) := c31.sound (.cons (ok47 n) (.cons (ok39 n) .nil)) n Try.func31 (by kernel_rfl) (by kernel_rfl)
noncomputable def f31 (n : Nat) (l : List (Int × (Int × Int))) (c : (Int × (Int × (Int × Int)))) (x : ((Int × ByteArray) × (Int × Bool))) : Option ((Int × (Int × (Int × Int))) × (Int × (Int × (Int × Int))) × Bool × Int) := c31.f Try.prog (T31 n) n (l, c, x)
theorem f31_eq (n : Nat) (l : List (Int × (Int × Int))) (c : (Int × (Int × (Int × Int)))) (x : ((Int × ByteArray) × (Int × Bool))) : f31 n l c x =
  (f47 n l c).bind fun r1 =>
  bif r1 != (0 : Int) then
   some (((0 : Int), (0 : Int), (0 : Int), (0 : Int)), ((0 : Int), (0 : Int), (0 : Int), (0 : Int)), false, r1)
  else
   (f39 n l c x).bind fun r2 =>
   some (r2.fst, r2.snd.fst, r2.snd.snd, (0 : Int)) := by kernel_rfl
end Go.Proofs.Ytbmdklndjlmogaa
