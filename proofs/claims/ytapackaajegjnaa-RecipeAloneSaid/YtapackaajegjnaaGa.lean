/- What functions compute: printed, and checked by the kernel. -/
import Derived.Test.YtapackaajegjnaaRfT
import Derived.Test.YtapackaajegjnaaProg
import Derived.Test.YtapackaajegjnaaChecked
namespace Go.Proofs.Ytapackaajegjnaa
open Go.Rf
/- convoy/tick.Is -/
noncomputable def c38 : Cfg := ⟨38, Try.f38, [(.int .i64)], [.bool], 4, [], []⟩
noncomputable def T38 (_ : Nat) : Tab := ⟨[], []⟩
noncomputable def e38 (n : Nat) : Entry := c38.entry Try.prog (T38 n) n
theorem ok38 {W0 : World} (n : Nat) : FnOK Try.prog W0 (e38 n) := c38.sound .nil n Try.func38 (by kernel_rfl) (by kernel_rfl)
noncomputable def f38 (n : Nat) (t : Int) : Option (Bool) := c38.f Try.prog (T38 n) n t
theorem f38_eq (n : Nat) (t : Int) : f38 n t =
  bif decide (t ≥ (0 : Int)) then
   some (decide (t ≤ (4611686018427387904 : Int)))
  else
   some false := by kernel_rfl
/- convoy/recipe.may -/
noncomputable def c26 : Cfg := ⟨26, Try.f26, [(.agg (.pair (.int .i64) (.pair (.int .i64) (.int .i64))))], [.bool], 7, [], []⟩
noncomputable def T26 (n : Nat) : Tab := ⟨[e38 n], []⟩
noncomputable def e26 (n : Nat) : Entry := c26.entry Try.prog (T26 n) n
theorem ok26 {W0 : World} (n : Nat) : FnOK Try.prog W0 (e26 n) := c26.sound (.cons (ok38 n) .nil) n Try.func26 (by kernel_rfl) (by kernel_rfl)
noncomputable def f26 (n : Nat) (s : (Int × (Int × Int))) : Option (Bool) := c26.f Try.prog (T26 n) n s
theorem f26_eq (n : Nat) (s : (Int × (Int × Int))) : f26 n s =
  bif s.fst == (1 : Int) then
   bif s.fst == (1 : Int) then
    some (s.snd.snd == (0 : Int))
   else
    bif s.fst == (2 : Int) then
     bif s.snd.snd == (0 : Int) then
      bif decide (s.snd.fst ≥ (-63 : Int)) then
       some (decide (s.snd.fst ≤ (63 : Int)))
      else
       some false
     else
      some false
    else
     bif s.fst == (5 : Int) then
      bif s.snd.snd == (0 : Int) then
       bif decide (s.snd.fst ≥ (0 : Int)) then
        some (decide (s.snd.fst ≤ (63 : Int)))
       else
        some false
      else
       some false
     else
      bif s.fst == (6 : Int) then
       bif s.snd.snd == (0 : Int) then
        bif decide (s.snd.fst ≥ (0 : Int)) then
         some (decide (s.snd.fst < (256 : Int)))
        else
         some false
       else
        some false
      else
       bif s.fst == (7 : Int) then
        bif s.snd.snd == (0 : Int) then
         (f38 n s.snd.fst).bind fun r1 =>
         some r1
        else
         some false
       else
        bif s.fst == (9 : Int) then
         bif decide (s.snd.fst ≥ (0 : Int)) then
          bif decide (s.snd.fst ≤ (3 : Int)) then
           bif decide (s.snd.snd ≥ (1 : Int)) then
            some (decide (s.snd.snd ≤ (256 : Int)))
           else
            some false
          else
           some false
         else
          some false
        else
         bif s.fst == (3 : Int) then
          bif s.fst == (3 : Int) then
           bif s.snd.fst == (0 : Int) then
            some (s.snd.snd == (0 : Int))
           else
            some false
          else
           some false
         else
          bif s.fst == (4 : Int) then
           bif s.fst == (4 : Int) then
            bif s.snd.fst == (0 : Int) then
             some (s.snd.snd == (0 : Int))
            else
             some false
           else
            some false
          else
           bif s.fst == (8 : Int) then
            bif s.fst == (8 : Int) then
             bif s.snd.fst == (0 : Int) then
              some (s.snd.snd == (0 : Int))
             else
              some false
            else
             some false
           else
            bif s.fst == (10 : Int) then
             bif s.snd.fst == (0 : Int) then
              some (s.snd.snd == (0 : Int))
             else
              some false
            else
             some false
  else
   bif s.fst == (11 : Int) then
    bif s.fst == (11 : Int) then
     some (s.snd.snd == (0 : Int))
    else
     bif s.fst == (2 : Int) then
      bif s.snd.snd == (0 : Int) then
       bif decide (s.snd.fst ≥ (-63 : Int)) then
        some (decide (s.snd.fst ≤ (63 : Int)))
       else
        some false
      else
       some false
     else
      bif s.fst == (5 : Int) then
       bif s.snd.snd == (0 : Int) then
        bif decide (s.snd.fst ≥ (0 : Int)) then
         some (decide (s.snd.fst ≤ (63 : Int)))
        else
         some false
       else
        some false
      else
       bif s.fst == (6 : Int) then
        bif s.snd.snd == (0 : Int) then
         bif decide (s.snd.fst ≥ (0 : Int)) then
          some (decide (s.snd.fst < (256 : Int)))
         else
          some false
        else
         some false
       else
        bif s.fst == (7 : Int) then
         bif s.snd.snd == (0 : Int) then
          (f38 n s.snd.fst).bind fun r2 =>
          some r2
         else
          some false
        else
         bif s.fst == (9 : Int) then
          bif decide (s.snd.fst ≥ (0 : Int)) then
           bif decide (s.snd.fst ≤ (3 : Int)) then
            bif decide (s.snd.snd ≥ (1 : Int)) then
             some (decide (s.snd.snd ≤ (256 : Int)))
            else
             some false
           else
            some false
          else
           some false
         else
          bif s.fst == (3 : Int) then
           bif s.fst == (3 : Int) then
            bif s.snd.fst == (0 : Int) then
             some (s.snd.snd == (0 : Int))
            else
             some false
           else
            some false
          else
           bif s.fst == (4 : Int) then
            bif s.fst == (4 : Int) then
             bif s.snd.fst == (0 : Int) then
              some (s.snd.snd == (0 : Int))
             else
              some false
            else
             some false
           else
            bif s.fst == (8 : Int) then
             bif s.fst == (8 : Int) then
              bif s.snd.fst == (0 : Int) then
               some (s.snd.snd == (0 : Int))
              else
               some false
             else
              some false
            else
             bif s.fst == (10 : Int) then
              bif s.snd.fst == (0 : Int) then
               some (s.snd.snd == (0 : Int))
              else
               some false
             else
              some false
   else
    bif s.fst == (12 : Int) then
     some (s.snd.snd == (0 : Int))
    else
     bif s.fst == (2 : Int) then
      bif s.snd.snd == (0 : Int) then
       bif decide (s.snd.fst ≥ (-63 : Int)) then
        some (decide (s.snd.fst ≤ (63 : Int)))
       else
        some false
      else
       some false
     else
      bif s.fst == (5 : Int) then
       bif s.snd.snd == (0 : Int) then
        bif decide (s.snd.fst ≥ (0 : Int)) then
         some (decide (s.snd.fst ≤ (63 : Int)))
        else
         some false
       else
        some false
      else
       bif s.fst == (6 : Int) then
        bif s.snd.snd == (0 : Int) then
         bif decide (s.snd.fst ≥ (0 : Int)) then
          some (decide (s.snd.fst < (256 : Int)))
         else
          some false
        else
         some false
       else
        bif s.fst == (7 : Int) then
         bif s.snd.snd == (0 : Int) then
          (f38 n s.snd.fst).bind fun r3 =>
          some r3
         else
          some false
        else
         bif s.fst == (9 : Int) then
          bif decide (s.snd.fst ≥ (0 : Int)) then
           bif decide (s.snd.fst ≤ (3 : Int)) then
            bif decide (s.snd.snd ≥ (1 : Int)) then
             some (decide (s.snd.snd ≤ (256 : Int)))
            else
             some false
           else
            some false
          else
           some false
         else
          bif s.fst == (3 : Int) then
           bif s.fst == (3 : Int) then
            bif s.snd.fst == (0 : Int) then
             some (s.snd.snd == (0 : Int))
            else
             some false
           else
            some false
          else
           bif s.fst == (4 : Int) then
            bif s.fst == (4 : Int) then
             bif s.snd.fst == (0 : Int) then
              some (s.snd.snd == (0 : Int))
             else
              some false
            else
             some false
           else
            bif s.fst == (8 : Int) then
             bif s.fst == (8 : Int) then
              bif s.snd.fst == (0 : Int) then
               some (s.snd.snd == (0 : Int))
              else
               some false
             else
              some false
            else
             bif s.fst == (10 : Int) then
              bif s.snd.fst == (0 : Int) then
               some (s.snd.snd == (0 : Int))
              else
               some false
             else
              some false := by kernel_rfl
/- convoy/recipe.Check$1 -/
noncomputable def c25 : Cfg := ⟨25, Try.f25, [(.agg (.pair (.int .i64) (.pair (.int .i64) (.int .i64))))], [.bool], 3, [], []⟩
noncomputable def T25 (n : Nat) : Tab := ⟨[e26 n], []⟩
noncomputable def e25 (n : Nat) : Entry := c25.entry Try.prog (T25 n) n
theorem ok25 {W0 : World} (n : Nat) : FnOK Try.prog W0 (e25 n) := c25.sound (.cons (ok26 n) .nil) n Try.func25 (by kernel_rfl) (by kernel_rfl)
noncomputable def f25 (n : Nat) (s : (Int × (Int × Int))) : Option (Bool) := c25.f Try.prog (T25 n) n s
theorem f25_eq (n : Nat) (s : (Int × (Int × Int))) : f25 n s =
  (f26 n s).bind fun r1 =>
  some !r1 := by kernel_rfl
/- slices.IndexFunc[[]convoy/api.Step,convoy/api.Step] -/
noncomputable def c24a : Cfg := ⟨24, Try.f24, [(.sl 30 (.agg (.pair (.int .i64) (.pair (.int .i64) (.int .i64))))), (.fn 25)], [(.int .i64)], 5, [], [(4, ⟨19, 5, [(0, (.val (.sl 30 (.agg (.pair (.int .i64) (.pair (.int .i64) (.int .i64))))))), (1, (.val (.fn 25))), (7, (.val (.int .i64))), (8, (.val (.int .i64)))], []⟩)]⟩
noncomputable def T24a (n : Nat) : Tab := ⟨[e25 n], []⟩
noncomputable def e24a (n : Nat) : Entry := c24a.entry Try.prog (T24a n) n
theorem ok24a {W0 : World} (n : Nat) : FnOK Try.prog W0 (e24a n) := c24a.sound (.cons (ok25 n) .nil) n Try.func24 (by kernel_rfl) (by kernel_rfl)
noncomputable def f24a (n : Nat) (s : List (Int × (Int × Int))) (f : Unit) : Option (Int) := c24a.f Try.prog (T24a n) n (s, f)
noncomputable def f24a_4 (n m : Nat) (s : List (Int × (Int × Int))) (f : Unit) (x7 : Int) (x8 : Int) : Option (Int) := c24a.LL Try.prog (T24a n) m 4 (s, f, x7, x8) ()
theorem f24a_4_zero (n : Nat) (s : List (Int × (Int × Int))) (f : Unit) (x7 : Int) (x8 : Int) : f24a_4 n 0 s f x7 x8 = none := rfl
theorem f24a_4_eq (n m : Nat) (s : List (Int × (Int × Int))) (f : Unit) (x7 : Int) (x8 : Int) : f24a_4 n (m + 1) s f x7 x8 =
  bif decide (x8 < x7) then
   bif decide ((0 : Int) ≤ x8 ∧ x8 < ↑s.length) then
    (f25 n (s.getD x8.toNat ((0 : Int), (0 : Int), (0 : Int)))).bind fun r1 =>
    bif r1 then
     some x8
    else
     f24a_4 n m s () x7 (Go.IntKind.i64.wrap (x8 + (1 : Int)))
   else
    none
  else
   some (-1 : Int) := by kernel_rfl
theorem f24a_eq (n : Nat) (s : List (Int × (Int × Int))) (f : Unit) : f24a n s f =
  f24a_4 n n s () ↑s.length (0 : Int) := by kernel_rfl
/- convoy/recipe.Check -/
noncomputable def c8 : Cfg := ⟨8, Try.f8, [(.sl 30 (.agg (.pair (.int .i64) (.pair (.int .i64) (.int .i64)))))], [(.int .i64), (.int .i64)], 4, [], []⟩
noncomputable def T8 (n : Nat) : Tab := ⟨[e24a n, e25 n], []⟩
noncomputable def e8 (n : Nat) : Entry := c8.entry Try.prog (T8 n) n
theorem ok8 {W0 : World} (n : Nat) : FnOK Try.prog W0 (e8 n) := c8.sound (.cons (ok24a n) (.cons (ok25 n) .nil)) n Try.func8 (by kernel_rfl) (by kernel_rfl)
noncomputable def f8 (n : Nat) (l : List (Int × (Int × Int))) : Option (Int × Int) := c8.f Try.prog (T8 n) n l
theorem f8_eq (n : Nat) (l : List (Int × (Int × Int))) : f8 n l =
  bif decide (↑l.length > (256 : Int)) then
   some ((256 : Int), (3 : Int))
  else
   (f24a n l ()).bind fun r1 =>
   bif decide (r1 ≥ (0 : Int)) then
    some (r1, (80 : Int))
   else
    some ((0 : Int), (0 : Int)) := by kernel_rfl
/- convoy/recipe.failed -/
noncomputable def c35 : Cfg := ⟨35, Try.f35, [(.int .i64), (.int .i64), (.agg (.pair (.agg (.pair (.int .u16) .str)) (.pair (.int .i64) .bool)))], [(.agg (.pair (.int .i64) (.agg (.pair (.int .i64) (.pair (.int .i64) (.int .i64))))))], 4, [], []⟩
noncomputable def T35 (_ : Nat) : Tab := ⟨[], []⟩
noncomputable def e35 (n : Nat) : Entry := c35.entry Try.prog (T35 n) n
theorem ok35 {W0 : World} (n : Nat) : FnOK Try.prog W0 (e35 n) := c35.sound .nil n Try.func35 (by kernel_rfl) (by kernel_rfl)
noncomputable def f35 (n : Nat) (kind : Int) (code : Int) (x : ((Int × ByteArray) × (Int × Bool))) : Option ((Int × (Int × (Int × Int)))) := c35.f Try.prog (T35 n) n (kind, code, x)
theorem f35_eq (n : Nat) (kind : Int) (code : Int) (x : ((Int × ByteArray) × (Int × Bool))) : f35 n kind code x =
  some (((0 : Int), kind, code, x.snd.fst)) := by kernel_rfl
/- convoy/recipe.skips -/
noncomputable def c36 : Cfg := ⟨36, Try.f36, [(.int .i64), (.int .i64), (.agg (.pair (.agg (.pair (.int .u16) .str)) (.pair (.int .i64) .bool)))], [.bool], 5, [], []⟩
noncomputable def T36 (_ : Nat) : Tab := ⟨[], []⟩
noncomputable def e36 (n : Nat) : Entry := c36.entry Try.prog (T36 n) n
theorem ok36 {W0 : World} (n : Nat) : FnOK Try.prog W0 (e36 n) := c36.sound .nil n Try.func36 (by kernel_rfl) (by kernel_rfl)
noncomputable def f36 (n : Nat) (how : Int) (a1 : Int) (x : ((Int × ByteArray) × (Int × Bool))) : Option (Bool) := c36.f Try.prog (T36 n) n (how, a1, x)
theorem f36_eq (n : Nat) (how : Int) (a1 : Int) (x : ((Int × ByteArray) × (Int × Bool))) : f36 n how a1 x =
  bif how == (0 : Int) then
   some (a1 == (0 : Int))
  else
   bif how == (1 : Int) then
    some (decide (a1 < (0 : Int)))
   else
    bif how == (2 : Int) then
     some (Go.IntKind.i64.wrap ↑(BitVec.ofInt (64 : Nat) a1 &&& BitVec.ofInt (64 : Nat) (1 : Int)).toNat == (1 : Int))
    else
     some x.snd.snd := by kernel_rfl
/- convoy/recipe.shifted -/
noncomputable def c43 : Cfg := ⟨43, Try.f43, [(.int .i64), (.int .i64)], [(.int .i64)], 4, [], []⟩
noncomputable def T43 (_ : Nat) : Tab := ⟨[], []⟩
noncomputable def e43 (n : Nat) : Entry := c43.entry Try.prog (T43 n) n
theorem ok43 {W0 : World} (n : Nat) : FnOK Try.prog W0 (e43 n) := c43.sound .nil n Try.func43 (by kernel_rfl) (by kernel_rfl)
noncomputable def f43 (n : Nat) (a0 : Int) (a1 : Int) : Option (Int) := c43.f Try.prog (T43 n) n (a0, a1)
theorem f43_eq (n : Nat) (a0 : Int) (a1 : Int) : f43 n a0 a1 =
  bif decide (a1 < (0 : Int)) then
   bif decide (Go.IntKind.u64.wrap (Go.IntKind.i64.wrap ((0 : Int) - a1)) < (0 : Int)) then
    none
   else
    some (a0.fdiv ((2 : Int) ^ Min.min (Go.IntKind.u64.wrap (Go.IntKind.i64.wrap ((0 : Int) - a1))).toNat (64 : Nat)))
  else
   bif decide (Go.IntKind.u64.wrap a1 < (0 : Int)) then
    none
   else
    some (Go.IntKind.i64.wrap (a0 * (2 : Int) ^ Min.min (Go.IntKind.u64.wrap a1).toNat (64 : Nat))) := by kernel_rfl
/- convoy/key.told -/
noncomputable def c57 : Cfg := ⟨57, Try.f57, [(.agg (.pair (.int .u16) .str))], [.str], 5, [], []⟩
noncomputable def T57 (_ : Nat) : Tab := ⟨[], []⟩
noncomputable def e57 (n : Nat) : Entry := c57.entry Try.prog (T57 n) n
theorem ok57 {W0 : World} (n : Nat) : FnOK Try.prog W0 (e57 n) := c57.sound .nil n Try.func57 (by kernel_rfl) (by kernel_rfl)
noncomputable def f57 (n : Nat) (k : (Int × ByteArray)) : Option (ByteArray) := c57.f Try.prog (T57 n) n k
theorem f57_eq (n : Nat) (k : (Int × ByteArray)) : f57 n k =
  bif decide (↑((Go.Rf.mkBytes [Go.IntKind.u8.wrap k.fst, Go.IntKind.u8.wrap (Int.fdiv k.fst ((2 : Int) ^ (8 : Nat))), Go.IntKind.u8.wrap ↑(ByteArray.size k.snd)]).size + ByteArray.size k.snd) > Int.ofNat (9223372036854775807 : Nat)) then
   none
  else
   some (Go.Rf.mkBytes [Go.IntKind.u8.wrap k.fst, Go.IntKind.u8.wrap (Int.fdiv k.fst ((2 : Int) ^ (8 : Nat))), Go.IntKind.u8.wrap ↑(ByteArray.size k.snd)] ++ k.snd) := by kernel_rfl
/- convoy/key.Hash -/
noncomputable def c44 : Cfg := ⟨44, Try.f44, [(.agg (.pair (.int .u16) .str))], [(.int .u64)], 5, [], [(8, ⟨31, 5, [(3, (.val (.int .u64))), (4, (.val .str)), (9, (.val (.int .i64))), (10, (.val (.int .i64)))], []⟩)]⟩
noncomputable def T44 (n : Nat) : Tab := ⟨[e57 n], []⟩
noncomputable def e44 (n : Nat) : Entry := c44.entry Try.prog (T44 n) n
theorem ok44 {W0 : World} (n : Nat) : FnOK Try.prog W0 (e44 n) := c44.sound (.cons (ok57 n) .nil) n Try.func44 (by kernel_rfl) (by kernel_rfl)
noncomputable def f44 (n : Nat) (k : (Int × ByteArray)) : Option (Int) := c44.f Try.prog (T44 n) n k
noncomputable def f44_8 (n m : Nat) (h : Int) (s : ByteArray) (x9 : Int) (x10 : Int) : Option (Int) := c44.LL Try.prog (T44 n) m 8 (h, s, x9, x10) ()
theorem f44_8_zero (n : Nat) (h : Int) (s : ByteArray) (x9 : Int) (x10 : Int) : f44_8 n 0 h s x9 x10 = none := rfl
theorem f44_8_eq (n m : Nat) (h : Int) (s : ByteArray) (x9 : Int) (x10 : Int) : f44_8 n (m + 1) h s x9 x10 =
  bif decide (x10 < x9) then
   bif decide ((0 : Int) ≤ x10 ∧ x10 < ↑s.size) then
    f44_8 n m (Go.IntKind.u64.wrap (Go.IntKind.u64.wrap ↑(BitVec.ofInt (64 : Nat) h ^^^ BitVec.ofInt (64 : Nat) (Go.IntKind.u64.wrap (Go.Rf.byteAt s x10))).toNat * (1099511628211 : Int))) s x9 (Go.IntKind.i64.wrap (x10 + (1 : Int)))
   else
    none
  else
   some (Go.IntKind.u64.wrap ↑(BitVec.ofInt (64 : Nat) (Go.IntKind.u64.wrap (Go.IntKind.u64.wrap ↑(BitVec.ofInt (64 : Nat) h ^^^ BitVec.ofInt (64 : Nat) (h.fdiv ((2 : Int) ^ (32 : Nat)))).toNat * (11400714819323198485 : Int))) ^^^ BitVec.ofInt (64 : Nat) ((Go.IntKind.u64.wrap (Go.IntKind.u64.wrap ↑(BitVec.ofInt (64 : Nat) h ^^^ BitVec.ofInt (64 : Nat) (h.fdiv ((2 : Int) ^ (32 : Nat)))).toNat * (11400714819323198485 : Int))).fdiv ((2 : Int) ^ (29 : Nat)))).toNat) := by kernel_rfl
theorem f44_eq (n : Nat) (k : (Int × ByteArray)) : f44 n k =
  (f57 n k).bind fun r1 =>
  f44_8 n n (14695981039346656037 : Int) r1 (↑(ByteArray.size r1)) (0 : Int) := by kernel_rfl
/- math/bits.RotateLeft64 -/
noncomputable def c45 : Cfg := ⟨45, Try.f45, [(.int .u64), (.int .i64)], [(.int .u64)], 5, [], []⟩
noncomputable def T45 (_ : Nat) : Tab := ⟨[], []⟩
noncomputable def e45 (n : Nat) : Entry := c45.entry Try.prog (T45 n) n
theorem ok45 {W0 : World} (n : Nat) : FnOK Try.prog W0 (e45 n) := c45.sound .nil n Try.func45 (by kernel_rfl) (by kernel_rfl)
noncomputable def f45 (n : Nat) (x : Int) (k : Int) : Option (Int) := c45.f Try.prog (T45 n) n (x, k)
theorem f45_eq (n : Nat) (x : Int) (k : Int) : f45 n x k =
  bif decide (Go.IntKind.u64.wrap ((64 : Int) - Go.IntKind.u64.wrap ↑(BitVec.ofInt (64 : Nat) (Go.IntKind.u64.wrap k) &&& BitVec.ofInt (64 : Nat) (63 : Int)).toNat) < (0 : Int)) then
   none
  else
   some (Go.IntKind.u64.wrap ↑(BitVec.ofInt (64 : Nat) (Go.IntKind.u64.wrap (x * (2 : Int) ^ Min.min (Go.IntKind.u64.wrap ↑(BitVec.ofInt (64 : Nat) (Go.IntKind.u64.wrap k) &&& BitVec.ofInt (64 : Nat) (63 : Int)).toNat).toNat (64 : Nat))) ||| BitVec.ofInt (64 : Nat) (x.fdiv ((2 : Int) ^ Min.min (Go.IntKind.u64.wrap ((64 : Int) - Go.IntKind.u64.wrap ↑(BitVec.ofInt (64 : Nat) (Go.IntKind.u64.wrap k) &&& BitVec.ofInt (64 : Nat) (63 : Int)).toNat)).toNat (64 : Nat)))).toNat) := by kernel_rfl
/- convoy/recipe.worked -/
noncomputable def c37 : Cfg := ⟨37, Try.f37, [(.agg (.pair (.int .i64) (.pair (.int .i64) (.int .i64)))), (.int .i64), (.agg (.pair (.agg (.pair (.int .u16) .str)) (.pair (.int .i64) .bool)))], [(.int .i64)], 6, [], []⟩
noncomputable def T37 (n : Nat) : Tab := ⟨[e43 n, e44 n, e45 n], []⟩
noncomputable def e37 (n : Nat) : Entry := c37.entry Try.prog (T37 n) n
theorem ok37 {W0 : World} (n : Nat) : FnOK Try.prog W0 (e37 n) := c37.sound (.cons (ok43 n) (.cons (ok44 n) (.cons (ok45 n) .nil))) n Try.func37 (by kernel_rfl) (by kernel_rfl)
noncomputable def f37 (n : Nat) (s : (Int × (Int × Int))) (a1 : Int) (x : ((Int × ByteArray) × (Int × Bool))) : Option (Int) := c37.f Try.prog (T37 n) n (s, a1, x)
theorem f37_eq (n : Nat) (s : (Int × (Int × Int))) (a1 : Int) (x : ((Int × ByteArray) × (Int × Bool))) : f37 n s a1 x =
  bif s.fst == (1 : Int) then
   some (Go.IntKind.i64.wrap (a1 + s.snd.fst))
  else
   bif s.fst == (2 : Int) then
    (f43 n a1 s.snd.fst).bind fun r1 =>
    some r1
   else
    bif s.fst == (3 : Int) then
     (f44 n x.fst).bind fun r2 =>
     some (Go.IntKind.i64.wrap ↑(BitVec.ofInt (64 : Nat) a1 ^^^ BitVec.ofInt (64 : Nat) (Go.IntKind.i64.wrap r2)).toNat)
    else
     bif s.fst == (4 : Int) then
      some (Go.IntKind.i64.wrap (a1 + x.snd.fst))
     else
      bif s.fst == (5 : Int) then
       (f45 n (Go.IntKind.u64.wrap a1) s.snd.fst).bind fun r3 =>
       some (Go.IntKind.i64.wrap r3)
      else
       some a1 := by kernel_rfl
/- convoy/recipe.one -/
noncomputable def c22 : Cfg := ⟨22, Try.f22, [(.sl 30 (.agg (.pair (.int .i64) (.pair (.int .i64) (.int .i64))))), (.agg (.pair (.int .i64) (.pair (.int .i64) (.pair (.int .i64) (.int .i64))))), (.agg (.pair (.agg (.pair (.int .u16) .str)) (.pair (.int .i64) .bool)))], [(.agg (.pair (.int .i64) (.pair (.int .i64) (.pair (.int .i64) (.int .i64))))), (.agg (.pair (.int .i64) (.agg (.pair (.int .i64) (.pair (.int .i64) (.int .i64)))))), .bool], 7, [], []⟩
noncomputable def T22 (n : Nat) : Tab := ⟨[e35 n, e36 n, e37 n], []⟩
noncomputable def e22 (n : Nat) : Entry := c22.entry Try.prog (T22 n) n
theorem ok22 {W0 : World} (n : Nat) : FnOK Try.prog W0 (e22 n) := c22.sound (.cons (ok35 n) (.cons (ok36 n) (.cons (ok37 n) .nil))) n Try.func22 (by kernel_rfl) (by kernel_rfl)
noncomputable def f22 (n : Nat) (l : List (Int × (Int × Int))) (c : (Int × (Int × (Int × Int)))) (x : ((Int × ByteArray) × (Int × Bool))) : Option ((Int × (Int × (Int × Int))) × (Int × (Int × (Int × Int))) × Bool) := c22.f Try.prog (T22 n) n (l, c, x)
theorem f22_eq (n : Nat) (l : List (Int × (Int × Int))) (c : (Int × (Int × (Int × Int)))) (x : ((Int × ByteArray) × (Int × Bool))) : f22 n l c x =
  bif c.fst == ↑l.length then
   some (((0 : Int), (0 : Int), (0 : Int), (0 : Int)), (c.snd.fst, (0 : Int), (0 : Int), (0 : Int)), true)
  else
   bif decide ((0 : Int) ≤ c.fst ∧ c.fst < ↑l.length) then
    bif (l.getD (Int.toNat c.fst) ((0 : Int), (0 : Int), (0 : Int))).fst == (10 : Int) then
     some (((0 : Int), (0 : Int), (0 : Int), (0 : Int)), (c.snd.fst, (0 : Int), (0 : Int), (0 : Int)), true)
    else
     bif (l.getD (Int.toNat c.fst) ((0 : Int), (0 : Int), (0 : Int))).fst == (11 : Int) then
      (f35 n (1 : Int) (l.getD (Int.toNat c.fst) ((0 : Int), (0 : Int), (0 : Int))).snd.fst x).bind fun r1 =>
      some (((0 : Int), (0 : Int), (0 : Int), (0 : Int)), r1, true)
     else
      bif (l.getD (Int.toNat c.fst) ((0 : Int), (0 : Int), (0 : Int))).fst == (12 : Int) then
       (f35 n (2 : Int) (l.getD (Int.toNat c.fst) ((0 : Int), (0 : Int), (0 : Int))).snd.fst x).bind fun r2 =>
       some (((0 : Int), (0 : Int), (0 : Int), (0 : Int)), r2, true)
      else
       bif (l.getD (Int.toNat c.fst) ((0 : Int), (0 : Int), (0 : Int))).fst == (8 : Int) then
        bif x.snd.snd then
         (f35 n (5 : Int) (0 : Int) x).bind fun r3 =>
         some (((0 : Int), (0 : Int), (0 : Int), (0 : Int)), r3, true)
        else
         some ((Go.IntKind.i64.wrap (c.fst + (1 : Int)), c.snd), ((0 : Int), (0 : Int), (0 : Int), (0 : Int)), false)
       else
        bif (l.getD (Int.toNat c.fst) ((0 : Int), (0 : Int), (0 : Int))).fst == (9 : Int) then
         (f36 n (l.getD (Int.toNat c.fst) ((0 : Int), (0 : Int), (0 : Int))).snd.fst c.snd.fst x).bind fun r4 =>
         bif r4 then
          some ((if Go.IntKind.i64.wrap (Go.IntKind.i64.wrap (c.fst + (1 : Int)) + (l.getD (Int.toNat c.fst) ((0 : Int), (0 : Int), (0 : Int))).snd.snd) < ↑l.length then Go.IntKind.i64.wrap (Go.IntKind.i64.wrap (c.fst + (1 : Int)) + (l.getD (Int.toNat c.fst) ((0 : Int), (0 : Int), (0 : Int))).snd.snd) else ↑l.length, c.snd), ((0 : Int), (0 : Int), (0 : Int), (0 : Int)), false)
         else
          some ((Go.IntKind.i64.wrap (c.fst + (1 : Int)), c.snd), ((0 : Int), (0 : Int), (0 : Int), (0 : Int)), false)
        else
         bif (l.getD (Int.toNat c.fst) ((0 : Int), (0 : Int), (0 : Int))).fst == (6 : Int) then
          some ((Go.IntKind.i64.wrap (c.fst + (1 : Int)), c.snd.fst, (1 : Int), (l.getD (Int.toNat c.fst) ((0 : Int), (0 : Int), (0 : Int))).snd.fst), ((0 : Int), (0 : Int), (0 : Int), (0 : Int)), false)
         else
          bif (l.getD (Int.toNat c.fst) ((0 : Int), (0 : Int), (0 : Int))).fst == (7 : Int) then
           some ((Go.IntKind.i64.wrap (c.fst + (1 : Int)), c.snd.fst, (2 : Int), (l.getD (Int.toNat c.fst) ((0 : Int), (0 : Int), (0 : Int))).snd.fst), ((0 : Int), (0 : Int), (0 : Int), (0 : Int)), false)
          else
           (f37 n (l.getD (Int.toNat c.fst) ((0 : Int), (0 : Int), (0 : Int))) c.snd.fst x).bind fun r5 =>
           some ((Go.IntKind.i64.wrap (c.fst + (1 : Int)), r5, c.snd.snd), ((0 : Int), (0 : Int), (0 : Int), (0 : Int)), false)
   else
    none := by kernel_rfl
/- convoy/tick.After -/
noncomputable def c23 : Cfg := ⟨23, Try.f23, [(.int .i64), (.int .i64)], [(.int .i64), .bool], 5, [], []⟩
noncomputable def T23 (n : Nat) : Tab := ⟨[e38 n], []⟩
noncomputable def e23 (n : Nat) : Entry := c23.entry Try.prog (T23 n) n
theorem ok23 {W0 : World} (n : Nat) : FnOK Try.prog W0 (e23 n) := c23.sound (.cons (ok38 n) .nil) n Try.func23 (by kernel_rfl) (by kernel_rfl)
noncomputable def f23 (n : Nat) (t : Int) (d : Int) : Option (Int × Bool) := c23.f Try.prog (T23 n) n (t, d)
theorem f23_eq (n : Nat) (t : Int) (d : Int) : f23 n t d =
  (f38 n t).bind fun r1 =>
  bif !r1 then
   some ((0 : Int), false)
  else
   bif decide (d < (0 : Int)) then
    some ((0 : Int), false)
   else
    bif decide (d > Go.IntKind.i64.wrap ((4611686018427387904 : Int) - t)) then
     some ((4611686018427387904 : Int), false)
    else
     some (Go.IntKind.i64.wrap (t + d), true) := by kernel_rfl
/- convoy/recipe.Alone -/
noncomputable def c7 : Cfg := ⟨7, Try.f7, [(.sl 30 (.agg (.pair (.int .i64) (.pair (.int .i64) (.int .i64))))), (.agg (.pair (.agg (.pair (.int .u16) .str)) (.pair (.int .i64) .bool)))], [(.agg (.pair (.int .i64) (.agg (.pair (.int .i64) (.pair (.int .i64) (.int .i64)))))), (.int .i64), (.int .i64)], 6, [], [(12, ⟨46, 6, [(0, (.val (.sl 30 (.agg (.pair (.int .i64) (.pair (.int .i64) (.int .i64))))))), (3, (.ptr 1003 [])), (4, (.ptr 1004 [])), (9, (.val (.int .i64))), (10, (.ptr 1010 []))], [(1003, .box (.val (.agg (.pair (.agg (.pair (.int .u16) .str)) (.pair (.int .i64) .bool))))), (1004, .box (.val (.agg (.pair (.int .i64) (.agg (.pair (.int .i64) (.pair (.int .i64) (.int .i64)))))))), (1010, .box (.val (.agg (.pair (.int .i64) (.pair (.int .i64) (.pair (.int .i64) (.int .i64)))))))]⟩)]⟩
noncomputable def T7 (n : Nat) : Tab := ⟨[e8 n, e22 n, e23 n], []⟩
noncomputable def e7 (n : Nat) : Entry := c7.entry Try.prog (T7 n) n
theorem ok7 {W0 : World} (n : Nat) : FnOK Try.prog W0 (e7 n) := c7.sound (.cons (ok8 n) (.cons (ok22 n) (.cons (ok23 n) .nil))) n Try.func7 (by kernel_rfl) (by kernel_rfl)
noncomputable def f7 (n : Nat) (l : List (Int × (Int × Int))) (x : ((Int × ByteArray) × (Int × Bool))) : Option ((Int × (Int × (Int × Int))) × Int × Int) := c7.f Try.prog (T7 n) n (l, x)
noncomputable def f7_12 (n m : Nat) (l : List (Int × (Int × Int))) (slept : Int) (b1003 : ((Int × ByteArray) × (Int × Bool))) (b1004 : (Int × (Int × (Int × Int)))) (b1010 : (Int × (Int × (Int × Int)))) : Option ((Int × (Int × (Int × Int))) × Int × Int) := c7.LL Try.prog (T7 n) m 12 (l, (), (), slept, ()) (b1003, b1004, b1010, ())
theorem f7_12_zero (n : Nat) (l : List (Int × (Int × Int))) (slept : Int) (b1003 : ((Int × ByteArray) × (Int × Bool))) (b1004 : (Int × (Int × (Int × Int)))) (b1010 : (Int × (Int × (Int × Int)))) : f7_12 n 0 l slept b1003 b1004 b1010 = none := rfl
theorem f7_12_eq (n m : Nat) (l : List (Int × (Int × Int))) (slept : Int) (b1003 : ((Int × ByteArray) × (Int × Bool))) (b1004 : (Int × (Int × (Int × Int)))) (b1010 : (Int × (Int × (Int × Int)))) : f7_12 n (m + 1) l slept b1003 b1004 b1010 =
  (f22 n l b1010 b1003).bind fun r1 =>
  bif r1.snd.snd then
   some (r1.snd.fst, slept, (0 : Int))
  else
   bif r1.fst.snd.snd.fst == (2 : Int) then
    (f23 n slept r1.fst.snd.snd.snd).bind fun r2 =>
    f7_12 n m l r2.fst b1003 b1004 ((r1.fst.fst, r1.fst.snd.fst, (0 : Int), (0 : Int)))
   else
    f7_12 n m l slept b1003 b1004 ((r1.fst.fst, r1.fst.snd.fst, (0 : Int), (0 : Int))) := by kernel_rfl
theorem f7_eq (n : Nat) (l : List (Int × (Int × Int))) (x : ((Int × ByteArray) × (Int × Bool))) : f7 n l x =
  (f8 n l).bind fun r1 =>
  bif r1.snd != (0 : Int) then
   some (((0 : Int), (0 : Int), (0 : Int), (0 : Int)), (0 : Int), (80 : Int))
  else
   f7_12 n n l (0 : Int) x (((0 : Int), (0 : Int), (0 : Int), (0 : Int))) (((0 : Int), (0 : Int), (0 : Int), (0 : Int))) := by kernel_rfl
/- convoy/convoylaw08.awake -/
noncomputable def c6 : Cfg := ⟨6, Try.f6, [], [.bool], 5, [], []⟩
noncomputable def T6 (n : Nat) : Tab := ⟨[e7 n], []⟩
noncomputable def e6 (n : Nat) : Entry := c6.entry Try.prog (T6 n) n
theorem ok6 {W0 : World} (n : Nat) : FnOK Try.prog W0 (e6 n) := c6.sound (.cons (ok7 n) .nil) n Try.func6 (by kernel_rfl) (by kernel_rfl)
noncomputable def f6 (n : Nat) : Option (Bool) := c6.f Try.prog (T6 n) n ()
theorem f6_eq (n : Nat) : f6 n =
  (f7 n [((1 : Int), (5 : Int), (0 : Int)), ((2 : Int), (1 : Int), (0 : Int)), ((10 : Int), (0 : Int), (0 : Int))] (((0 : Int), ByteArray.empty), (1 : Int), false)).bind fun r1 =>
  bif r1.fst.fst == (10 : Int) && (r1.fst.snd.fst == (0 : Int) && (r1.fst.snd.snd.fst == (0 : Int) && r1.fst.snd.snd.snd == (0 : Int))) then
   some (r1.snd.snd == (0 : Int))
  else
   some false := by kernel_rfl
/- convoy/convoylaw08.RecipeSame -/
noncomputable def c3 : Cfg := ⟨3, Try.f3, [(.sl 30 (.agg (.pair (.int .i64) (.pair (.int .i64) (.int .i64))))), (.agg (.pair (.agg (.pair (.int .u16) .str)) (.pair (.int .i64) .bool))), (.agg (.pair (.agg (.pair (.int .u16) .str)) (.pair (.int .i64) .bool)))], [.bool], 7, [], [(8, ⟨82, 7, [(0, (.val (.sl 30 (.agg (.pair (.int .i64) (.pair (.int .i64) (.int .i64))))))), (4, (.ptr 1004 [])), (5, (.ptr 1005 [])), (17, (.val (.sl 30 (.agg (.pair (.int .i64) (.pair (.int .i64) (.int .i64))))))), (18, (.val (.int .i64))), (19, (.val (.int .i64)))], [(1004, .box (.val (.agg (.pair (.agg (.pair (.int .u16) .str)) (.pair (.int .i64) .bool))))), (1005, .box (.val (.agg (.pair (.agg (.pair (.int .u16) .str)) (.pair (.int .i64) .bool)))))]⟩)]⟩
noncomputable def T3 (n : Nat) : Tab := ⟨[e6 n, e7 n], []⟩
noncomputable def e3 (n : Nat) : Entry := c3.entry Try.prog (T3 n) n
theorem ok3 {W0 : World} (n : Nat) : FnOK Try.prog W0 (e3 n) := c3.sound (.cons (ok6 n) (.cons (ok7 n) .nil)) n Try.func3 (by kernel_rfl) (by kernel_rfl)
noncomputable def f3 (n : Nat) (l : List (Int × (Int × Int))) (x : ((Int × ByteArray) × (Int × Bool))) (y : ((Int × ByteArray) × (Int × Bool))) : Option (Bool) := c3.f Try.prog (T3 n) n (l, x, y)
noncomputable def f3_8 (n m : Nat) (l : List (Int × (Int × Int))) (x17 : List (Int × (Int × Int))) (x18 : Int) (x19 : Int) (b1004 : ((Int × ByteArray) × (Int × Bool))) (b1005 : ((Int × ByteArray) × (Int × Bool))) : Option (Bool) := c3.LL Try.prog (T3 n) m 8 (l, (), (), x17, x18, x19) (b1004, b1005, ())
theorem f3_8_zero (n : Nat) (l : List (Int × (Int × Int))) (x17 : List (Int × (Int × Int))) (x18 : Int) (x19 : Int) (b1004 : ((Int × ByteArray) × (Int × Bool))) (b1005 : ((Int × ByteArray) × (Int × Bool))) : f3_8 n 0 l x17 x18 x19 b1004 b1005 = none := rfl
theorem f3_8_eq (n m : Nat) (l : List (Int × (Int × Int))) (x17 : List (Int × (Int × Int))) (x18 : Int) (x19 : Int) (b1004 : ((Int × ByteArray) × (Int × Bool))) (b1005 : ((Int × ByteArray) × (Int × Bool))) : f3_8 n (m + 1) l x17 x18 x19 b1004 b1005 =
  bif decide (x19 < x18) then
   bif decide ((0 : Int) ≤ x19 ∧ x19 < ↑x17.length) then
    bif (x17.getD x19.toNat ((0 : Int), (0 : Int), (0 : Int))).fst == (4 : Int) then
     some true
    else
     bif (x17.getD x19.toNat ((0 : Int), (0 : Int), (0 : Int))).fst == (11 : Int) then
      some true
     else
      bif (x17.getD x19.toNat ((0 : Int), (0 : Int), (0 : Int))).fst == (12 : Int) then
       some true
      else
       bif (x17.getD x19.toNat ((0 : Int), (0 : Int), (0 : Int))).fst == (8 : Int) then
        some true
       else
        bif (x17.getD x19.toNat ((0 : Int), (0 : Int), (0 : Int))).fst == (9 : Int) then
         bif (x17.getD x19.toNat ((0 : Int), (0 : Int), (0 : Int))).snd.fst == (3 : Int) then
          some true
         else
          f3_8 n m l x17 x18 (Go.IntKind.i64.wrap (x19 + (1 : Int))) b1004 b1005
        else
         f3_8 n m l x17 x18 (Go.IntKind.i64.wrap (x19 + (1 : Int))) b1004 b1005
   else
    none
  else
   (f7 n l b1004).bind fun r1 =>
   (f7 n l (b1004.fst, b1005.snd)).bind fun r2 =>
   bif r1.fst.fst == r2.fst.fst && (r1.fst.snd.fst == r2.fst.snd.fst && (r1.fst.snd.snd.fst == r2.fst.snd.snd.fst && r1.fst.snd.snd.snd == r2.fst.snd.snd.snd)) then
    bif r1.snd.fst == r2.snd.fst then
     some (r1.snd.snd == r2.snd.snd)
    else
     some false
   else
    some false := by kernel_rfl
theorem f3_eq (n : Nat) (l : List (Int × (Int × Int))) (x : ((Int × ByteArray) × (Int × Bool))) (y : ((Int × ByteArray) × (Int × Bool))) : f3 n l x y =
  (f6 n).bind fun r1 =>
  bif !r1 then
   some false
  else
   f3_8 n n l l ↑l.length (0 : Int) x y := by kernel_rfl
end Go.Proofs.Ytapackaajegjnaa
