/- What the functions of the chapter on trying again compute: printed, and checked by the kernel. -/
import Derived.Test.YtnlnfmakcnadlaaGa
namespace Go.Proofs.Ytnlnfmakcnadlaa
open Go.Rf
/- convoy/retry.Check -/
noncomputable def c42 : Cfg := ⟨42, Try.f42, [(.agg (.pair (.int .i64) (.pair (.int .i64) (.pair (.int .i64) (.int .i64)))))], [(.int .i64)], 5, [], []⟩
noncomputable def T42 (_ : Nat) : Tab := ⟨[], []⟩
noncomputable def e42 (n : Nat) : Entry := c42.entry Try.prog (T42 n) n
theorem ok42 (n : Nat) : FnOK Try.prog (e42 n) := c42.sound .nil n Try.func42 (by kernel_rfl) (by kernel_rfl)
noncomputable def f42 (n : Nat) (r_ : (Int × (Int × (Int × Int)))) : Option (Int) := c42.f Try.prog (T42 n) n r_
theorem f42_eq (n : Nat) (r_ : (Int × (Int × (Int × Int)))) : f42 n r_ =
  bif decide (r_.fst < (0 : Int)) then
   some (170 : Int)
  else
   bif decide (r_.snd.fst < (0 : Int)) then
    some (170 : Int)
   else
    bif decide (r_.snd.snd.fst < (1 : Int)) then
     some (170 : Int)
    else
     bif decide (r_.snd.snd.fst > (64 : Int)) then
      some (170 : Int)
     else
      bif decide (r_.snd.snd.snd < (0 : Int)) then
       some (170 : Int)
      else
       bif decide (r_.snd.snd.snd > (256 : Int)) then
        some (170 : Int)
       else
        some (0 : Int) := by kernel_rfl
/- convoy/retry.off -/
noncomputable def c76 : Cfg := ⟨76, Try.f76, [(.int .i64), (.int .i64), (.int .i64), (.int .u64)], [(.int .i64)], 6, [], []⟩
noncomputable def T76 (n : Nat) : Tab := ⟨[e78 n, e29 n], []⟩
noncomputable def e76 (n : Nat) : Entry := c76.entry Try.prog (T76 n) n
theorem ok76 (n : Nat) : FnOK Try.prog (e76 n) := c76.sound (.cons (ok78 n) (.cons (ok29 n) .nil)) n Try.func76 (by kernel_rfl) (by kernel_rfl)
noncomputable def f76 (n : Nat) (w : Int) (spread : Int) (a2 : Int) (seed : Int) : Option (Int) := c76.f Try.prog (T76 n) n (w, spread, a2, seed)
theorem f76_eq (n : Nat) (w : Int) (spread : Int) (a2 : Int) (seed : Int) : f76 n w spread a2 seed =
  (f78 n (Go.IntKind.u64.wrap w) (Go.IntKind.u64.wrap spread)).bind fun r1 =>
  (f29 n (Go.IntKind.u64.wrap (seed + Go.IntKind.u64.wrap a2))).bind fun r2 =>
  (f78 n (Go.IntKind.u64.wrap ↑(BitVec.ofInt (64 : Nat) (Go.IntKind.u64.wrap (r1.fst * (2 : Int) ^ (56 : Nat))) ||| BitVec.ofInt (64 : Nat) (Int.fdiv r1.snd ((2 : Int) ^ (8 : Nat)))).toNat) (Int.fdiv r2 ((2 : Int) ^ (32 : Nat)))).bind fun r3 =>
  some (Go.IntKind.i64.wrap (Go.IntKind.u64.wrap ↑(BitVec.ofInt (64 : Nat) (Go.IntKind.u64.wrap (r3.fst * (2 : Int) ^ (32 : Nat))) ||| BitVec.ofInt (64 : Nat) (Int.fdiv r3.snd ((2 : Int) ^ (32 : Nat)))).toNat)) := by kernel_rfl
/- convoy/retry.Wait -/
noncomputable def c37 : Cfg := ⟨37, Try.f37, [(.agg (.pair (.int .i64) (.pair (.int .i64) (.pair (.int .i64) (.int .i64))))), (.int .i64), (.int .u64)], [(.int .i64), .bool, (.int .i64)], 6, [], []⟩
noncomputable def T37 (n : Nat) : Tab := ⟨[e42 n, e58 n, e76 n], []⟩
noncomputable def e37 (n : Nat) : Entry := c37.entry Try.prog (T37 n) n
theorem ok37 (n : Nat) : FnOK Try.prog (e37 n) := c37.sound (.cons (ok42 n) (.cons (ok58 n) (.cons (ok76 n) .nil))) n Try.func37 (by kernel_rfl) (by kernel_rfl)
noncomputable def f37 (n : Nat) (r_ : (Int × (Int × (Int × Int)))) (a1 : Int) (seed : Int) : Option (Int × Bool × Int) := c37.f Try.prog (T37 n) n (r_, a1, seed)
theorem f37_eq (n : Nat) (r_ : (Int × (Int × (Int × Int)))) (a1 : Int) (seed : Int) : f37 n r_ a1 seed =
  (f42 n r_).bind fun r1 =>
  bif r1 != (0 : Int) then
   some ((0 : Int), false, (170 : Int))
  else
   bif decide (a1 < (1 : Int)) then
    some ((0 : Int), false, (1 : Int))
   else
    bif decide (a1 ≥ r_.snd.snd.fst) then
     some ((0 : Int), false, (0 : Int))
    else
     (f58 n r_.fst (Go.IntKind.i64.wrap (a1 - (1 : Int))) r_.snd.fst).bind fun r2 =>
     bif r2.snd != (0 : Int) then
      some ((0 : Int), false, r2.snd)
     else
      (f76 n r2.fst r_.snd.snd.snd a1 seed).bind fun r3 =>
      some (Go.IntKind.i64.wrap (r2.fst - r3), true, (0 : Int)) := by kernel_rfl
/- convoy/convoylaw17.plan -/
noncomputable def c39 : Cfg := ⟨39, Try.f39, [(.agg (.pair (.int .i64) (.pair (.int .i64) (.pair (.int .i64) (.int .i64)))))], [(.agg (.pair (.int .i64) (.pair (.int .i64) (.pair (.int .i64) (.int .i64)))))], 4, [], []⟩
noncomputable def T39 (_ : Nat) : Tab := ⟨[], []⟩
noncomputable def e39 (n : Nat) : Entry := c39.entry Try.prog (T39 n) n
theorem ok39 (n : Nat) : FnOK Try.prog (e39 n) := c39.sound .nil n Try.func39 (by kernel_rfl) (by kernel_rfl)
noncomputable def f39 (n : Nat) (r_ : (Int × (Int × (Int × Int)))) : Option ((Int × (Int × (Int × Int)))) := c39.f Try.prog (T39 n) n r_
theorem f39_eq (n : Nat) (r_ : (Int × (Int × (Int × Int)))) : f39 n r_ =
  some r_ := by kernel_rfl
/- convoy/convoyref17.May -/
noncomputable def c40 : Cfg := ⟨40, Try.f40, [(.agg (.pair (.int .i64) (.pair (.int .i64) (.pair (.int .i64) (.int .i64)))))], [.bool], 5, [], []⟩
noncomputable def T40 (_ : Nat) : Tab := ⟨[], []⟩
noncomputable def e40 (n : Nat) : Entry := c40.entry Try.prog (T40 n) n
theorem ok40 (n : Nat) : FnOK Try.prog (e40 n) := c40.sound .nil n Try.func40 (by kernel_rfl) (by kernel_rfl)
noncomputable def f40 (n : Nat) (r_ : (Int × (Int × (Int × Int)))) : Option (Bool) := c40.f Try.prog (T40 n) n r_
theorem f40_eq (n : Nat) (r_ : (Int × (Int × (Int × Int)))) : f40 n r_ =
  bif decide (r_.fst ≥ (0 : Int)) then
   bif decide (r_.snd.fst ≥ (0 : Int)) then
    bif decide (r_.snd.snd.fst ≥ (1 : Int)) then
     bif decide (r_.snd.snd.fst ≤ (64 : Int)) then
      bif decide (r_.snd.snd.snd ≥ (0 : Int)) then
       some (decide (r_.snd.snd.snd ≤ (256 : Int)))
      else
       some false
     else
      some false
    else
     some false
   else
    some false
  else
   some false := by kernel_rfl
/- convoy/convoyref17.part -/
noncomputable def c77 : Cfg := ⟨77, Try.f77, [(.int .u64), (.int .u64), (.int .i64)], [(.int .u64)], 7, [], [(6, ⟨90, 7, [(0, (.val (.int .u64))), (1, (.val (.int .u64))), (2, (.val (.int .i64))), (7, (.ptr 1007 [])), (8, (.val (.int .i64)))], [(1007, .box (.val (.arr 8 (.int .u64))))]⟩), (12, ⟨90, 7, [(0, (.val (.int .u64))), (1, (.val (.int .u64))), (2, (.val (.int .i64))), (7, (.ptr 1007 [])), (8, (.val (.int .i64))), (9, (.val (.int .i64)))], [(1007, .box (.val (.arr 8 (.int .u64))))]⟩), (38, ⟨90, 7, [(2, (.val (.int .i64))), (7, (.ptr 1007 [])), (14, (.val (.int .u64))), (15, (.val (.int .i64)))], [(1007, .box (.val (.arr 8 (.int .u64))))]⟩), (24, ⟨90, 7, [(0, (.val (.int .u64))), (1, (.val (.int .u64))), (2, (.val (.int .i64))), (7, (.ptr 1007 [])), (8, (.val (.int .i64))), (9, (.val (.int .i64))), (12, (.val (.int .u64))), (13, (.val (.int .i64)))], [(1007, .box (.val (.arr 8 (.int .u64))))]⟩)]⟩
noncomputable def T77 (_ : Nat) : Tab := ⟨[], []⟩
noncomputable def e77 (n : Nat) : Entry := c77.entry Try.prog (T77 n) n
theorem ok77 (n : Nat) : FnOK Try.prog (e77 n) := c77.sound .nil n Try.func77 (by kernel_rfl) (by kernel_rfl)
noncomputable def f77 (n : Nat) (w : Int) (times : Int) (bits : Int) : Option (Int) := c77.f Try.prog (T77 n) n (w, times, bits)
noncomputable def f77_6 (n m : Nat) (w : Int) (times : Int) (bits : Int) (i : Int) (b1007 : List Int) : Option (Int) := c77.LL Try.prog (T77 n) m 6 (w, times, bits, (), i) (b1007, ())
noncomputable def f77_12 (n m : Nat) (w : Int) (times : Int) (bits : Int) (i : Int) (k : Int) (b1007 : List Int) : Option (Int) := c77.LL Try.prog (T77 n) m 12 (w, times, bits, (), i, k) (b1007, ())
noncomputable def f77_38 (n m : Nat) (bits : Int) (out : Int) (bit : Int) (b1007 : List Int) : Option (Int) := c77.LL Try.prog (T77 n) m 38 (bits, (), out, bit) (b1007, ())
noncomputable def f77_24 (n m : Nat) (w : Int) (times : Int) (bits : Int) (i : Int) (k : Int) (carry : Int) (x13 : Int) (b1007 : List Int) : Option (Int) := c77.LL Try.prog (T77 n) m 24 (w, times, bits, (), i, k, carry, x13) (b1007, ())
theorem f77_6_zero (n : Nat) (w : Int) (times : Int) (bits : Int) (i : Int) (b1007 : List Int) : f77_6 n 0 w times bits i b1007 = none := rfl
theorem f77_6_eq (n m : Nat) (w : Int) (times : Int) (bits : Int) (i : Int) (b1007 : List Int) : f77_6 n (m + 1) w times bits i b1007 =
  bif decide (i < (4 : Int)) then
   f77_12 n m w times bits i (0 : Int) b1007
  else
   f77_38 n m bits (0 : Int) (0 : Int) b1007 := by kernel_rfl
theorem f77_12_zero (n : Nat) (w : Int) (times : Int) (bits : Int) (i : Int) (k : Int) (b1007 : List Int) : f77_12 n 0 w times bits i k b1007 = none := rfl
theorem f77_12_eq (n m : Nat) (w : Int) (times : Int) (bits : Int) (i : Int) (k : Int) (b1007 : List Int) : f77_12 n (m + 1) w times bits i k b1007 =
  bif decide (k < (3 : Int)) then
   bif decide (Go.IntKind.u64.wrap (Go.IntKind.i64.wrap ((16 : Int) * i)) < (0 : Int)) then
    none
   else
    bif decide (Go.IntKind.u64.wrap (Go.IntKind.i64.wrap ((16 : Int) * k)) < (0 : Int)) then
     none
    else
     f77_24 n m w times bits i k (Go.IntKind.u64.wrap ((w.fdiv ((2 : Int) ^ Min.min (Go.IntKind.u64.wrap (Go.IntKind.i64.wrap ((16 : Int) * i))).toNat (64 : Nat))).tmod (65536 : Int) * (times.fdiv ((2 : Int) ^ Min.min (Go.IntKind.u64.wrap (Go.IntKind.i64.wrap ((16 : Int) * k))).toNat (64 : Nat))).tmod (65536 : Int))) (Go.IntKind.i64.wrap (i + k)) b1007
  else
   f77_6 n m w times bits (Go.IntKind.i64.wrap (i + (1 : Int))) b1007 := by kernel_rfl
theorem f77_38_zero (n : Nat) (bits : Int) (out : Int) (bit : Int) (b1007 : List Int) : f77_38 n 0 bits out bit b1007 = none := rfl
theorem f77_38_eq (n m : Nat) (bits : Int) (out : Int) (bit : Int) (b1007 : List Int) : f77_38 n (m + 1) bits out bit b1007 =
  bif decide (bit < (64 : Int)) then
   bif decide (Go.IntKind.i64.wrap (bit + bits) < (128 : Int)) then
    bif decide ((0 : Int) ≤ Go.IntKind.i64.wrap ((Go.IntKind.i64.wrap (bit + bits)).tdiv (16 : Int)) ∧ Go.IntKind.i64.wrap ((Go.IntKind.i64.wrap (bit + bits)).tdiv (16 : Int)) < ↑(8 : Nat)) then
     bif decide (Go.IntKind.u64.wrap ((Go.IntKind.i64.wrap (bit + bits)).tmod (16 : Int)) < (0 : Int)) then
      none
     else
      bif (Int.fdiv (b1007.getD (Go.IntKind.i64.wrap ((Go.IntKind.i64.wrap (bit + bits)).tdiv (16 : Int))).toNat (0 : Int)) ((2 : Int) ^ Min.min (Go.IntKind.u64.wrap ((Go.IntKind.i64.wrap (bit + bits)).tmod (16 : Int))).toNat (64 : Nat))).tmod (2 : Int) == (1 : Int) then
       bif decide (Go.IntKind.u64.wrap bit < (0 : Int)) then
        none
       else
        f77_38 n m bits (Go.IntKind.u64.wrap ↑(BitVec.ofInt (64 : Nat) out ||| BitVec.ofInt (64 : Nat) (Go.IntKind.u64.wrap ((1 : Int) * (2 : Int) ^ Min.min (Go.IntKind.u64.wrap bit).toNat (64 : Nat)))).toNat) (Go.IntKind.i64.wrap (bit + (1 : Int))) b1007
      else
       f77_38 n m bits out (Go.IntKind.i64.wrap (bit + (1 : Int))) b1007
    else
     none
   else
    f77_38 n m bits out (Go.IntKind.i64.wrap (bit + (1 : Int))) b1007
  else
   some out := by kernel_rfl
theorem f77_24_zero (n : Nat) (w : Int) (times : Int) (bits : Int) (i : Int) (k : Int) (carry : Int) (x13 : Int) (b1007 : List Int) : f77_24 n 0 w times bits i k carry x13 b1007 = none := rfl
theorem f77_24_eq (n m : Nat) (w : Int) (times : Int) (bits : Int) (i : Int) (k : Int) (carry : Int) (x13 : Int) (b1007 : List Int) : f77_24 n (m + 1) w times bits i k carry x13 b1007 =
  bif decide (carry > (0 : Int)) then
   bif decide (x13 < (8 : Int)) then
    bif decide ((0 : Int) ≤ x13 ∧ x13 < ↑(8 : Nat)) then
     bif decide ((0 : Int) ≤ x13 ∧ x13 < ↑(8 : Nat)) then
      f77_24 n m w times bits i k (Go.IntKind.u64.wrap ((Go.IntKind.u64.wrap (carry + b1007.getD x13.toNat (0 : Int))).tdiv (65536 : Int))) (Go.IntKind.i64.wrap (x13 + (1 : Int))) (b1007.set x13.toNat ((Go.IntKind.u64.wrap (carry + b1007.getD x13.toNat (0 : Int))).tmod (65536 : Int)))
     else
      none
    else
     none
   else
    f77_12 n m w times bits i (Go.IntKind.i64.wrap (k + (1 : Int))) b1007
  else
   f77_12 n m w times bits i (Go.IntKind.i64.wrap (k + (1 : Int))) b1007 := by kernel_rfl
theorem f77_eq (n : Nat) (w : Int) (times : Int) (bits : Int) : f77 n w times bits =
  f77_6 n n w times bits (0 : Int) ([(0 : Int), (0 : Int), (0 : Int), (0 : Int), (0 : Int), (0 : Int), (0 : Int), (0 : Int)]) := by kernel_rfl
/- convoy/convoyref17.Wait -/
noncomputable def c38 : Cfg := ⟨38, Try.f38, [(.agg (.pair (.int .i64) (.pair (.int .i64) (.pair (.int .i64) (.int .i64))))), (.int .i64), (.int .u64)], [(.int .i64), .bool, (.int .i64)], 6, [], []⟩
noncomputable def T38 (n : Nat) : Tab := ⟨[e40 n, e59 n, e77 n, e30 n], []⟩
noncomputable def e38 (n : Nat) : Entry := c38.entry Try.prog (T38 n) n
theorem ok38 (n : Nat) : FnOK Try.prog (e38 n) := c38.sound (.cons (ok40 n) (.cons (ok59 n) (.cons (ok77 n) (.cons (ok30 n) .nil)))) n Try.func38 (by kernel_rfl) (by kernel_rfl)
noncomputable def f38 (n : Nat) (r_ : (Int × (Int × (Int × Int)))) (a1 : Int) (seed : Int) : Option (Int × Bool × Int) := c38.f Try.prog (T38 n) n (r_, a1, seed)
theorem f38_eq (n : Nat) (r_ : (Int × (Int × (Int × Int)))) (a1 : Int) (seed : Int) : f38 n r_ a1 seed =
  (f40 n r_).bind fun r1 =>
  bif !r1 then
   some ((0 : Int), false, (170 : Int))
  else
   bif decide (a1 < (1 : Int)) then
    some ((0 : Int), false, (1 : Int))
   else
    bif decide (a1 ≥ r_.snd.snd.fst) then
     some ((0 : Int), false, (0 : Int))
    else
     (f59 n r_.fst (Go.IntKind.i64.wrap (a1 - (1 : Int))) r_.snd.fst).bind fun r2 =>
     (f77 n (Go.IntKind.u64.wrap r2.fst) (Go.IntKind.u64.wrap r_.snd.snd.snd) (8 : Int)).bind fun r3 =>
     (f30 n (Go.IntKind.u64.wrap (seed + Go.IntKind.u64.wrap a1))).bind fun r4 =>
     (f77 n r3 (Go.IntKind.u64.wrap (Int.tdiv r4 (4294967296 : Int))) (32 : Int)).bind fun r5 =>
     some (Go.IntKind.i64.wrap (r2.fst - Go.IntKind.i64.wrap r5), true, (0 : Int)) := by kernel_rfl
/- convoy/convoylaw17.awake -/
noncomputable def c41 : Cfg := ⟨41, Try.f41, [], [.bool], 5, [], []⟩
noncomputable def T41 (n : Nat) : Tab := ⟨[e37 n], []⟩
noncomputable def e41 (n : Nat) : Entry := c41.entry Try.prog (T41 n) n
theorem ok41 (n : Nat) : FnOK Try.prog (e41 n) := c41.sound (.cons (ok37 n) .nil) n Try.func41 (by kernel_rfl) (by kernel_rfl)
noncomputable def f41 (n : Nat) : Option (Bool) := c41.f Try.prog (T41 n) n ()
theorem f41_eq (n : Nat) : f41 n =
  (f37 n ((10 : Int), (50 : Int), (5 : Int), (0 : Int)) (2 : Int) (0 : Int)).bind fun r1 =>
  bif r1.fst == (20 : Int) then
   bif r1.snd.fst then
    some (r1.snd.snd == (0 : Int))
   else
    some false
  else
   some false := by kernel_rfl
/- convoy/convoylaw17.RetryWaits -/
noncomputable def c7 : Cfg := ⟨7, Try.f7, [(.agg (.pair (.int .i64) (.pair (.int .i64) (.pair (.int .i64) (.int .i64))))), (.int .i64), (.int .u64)], [.bool], 7, [], []⟩
noncomputable def T7 (n : Nat) : Tab := ⟨[e37 n, e39 n, e38 n, e40 n, e41 n, e42 n], []⟩
noncomputable def e7 (n : Nat) : Entry := c7.entry Try.prog (T7 n) n
theorem ok7 (n : Nat) : FnOK Try.prog (e7 n) := c7.sound (.cons (ok37 n) (.cons (ok39 n) (.cons (ok38 n) (.cons (ok40 n) (.cons (ok41 n) (.cons (ok42 n) .nil)))))) n Try.func7 (by kernel_rfl) (by kernel_rfl)
noncomputable def f7 (n : Nat) (r_ : (Int × (Int × (Int × Int)))) (a1 : Int) (seed : Int) : Option (Bool) := c7.f Try.prog (T7 n) n (r_, a1, seed)
theorem f7_eq (n : Nat) (r_ : (Int × (Int × (Int × Int)))) (a1 : Int) (seed : Int) : f7 n r_ a1 seed =
  (f37 n r_ a1 seed).bind fun r1 =>
  (f39 n r_).bind fun r2 =>
  (f38 n r2 a1 seed).bind fun r3 =>
  (f39 n r_).bind fun r4 =>
  (f40 n r4).bind fun r5 =>
  bif r5 then
   (f41 n).bind fun r6 =>
   bif r6 then
    bif r1.fst == r3.fst then
     bif r1.snd.fst == r3.snd.fst then
      bif r1.snd.snd == r3.snd.snd then
       (f42 n r_).bind fun r7 =>
       bif r7 == (0 : Int) then
        bif r1.snd.snd != (0 : Int) then
         some true
        else
         bif decide (r1.fst ≥ (0 : Int)) then
          some (decide (r1.fst ≤ r_.snd.fst))
         else
          some false
       else
        some false
      else
       some false
     else
      some false
    else
     some false
   else
    some false
  else
   (f41 n).bind fun r8 =>
   bif r8 then
    bif r1.fst == r3.fst then
     bif r1.snd.fst == r3.snd.fst then
      bif r1.snd.snd == r3.snd.snd then
       (f42 n r_).bind fun r9 =>
       bif r9 == (170 : Int) then
        bif r1.snd.snd != (0 : Int) then
         some true
        else
         bif decide (r1.fst ≥ (0 : Int)) then
          some (decide (r1.fst ≤ r_.snd.fst))
         else
          some false
       else
        some false
      else
       some false
     else
      some false
    else
     some false
   else
    some false := by kernel_rfl
/- convoy/retry.Waits -/
noncomputable def c64 : Cfg := ⟨64, Try.f64, [(.agg (.pair (.int .i64) (.pair (.int .i64) (.pair (.int .i64) (.int .i64))))), (.int .u64)], [(.sl 2 (.int .i64)), (.int .i64)], 6, [], [(12, ⟨39, 6, [(1, (.val (.int .u64))), (2, (.ptr 1002 [])), (7, (.rs 1007)), (8, (.val (.int .i64)))], [(1002, .box (.val (.agg (.pair (.int .i64) (.pair (.int .i64) (.pair (.int .i64) (.int .i64))))))), (1007, .row 2 (.int .i64))]⟩)]⟩
noncomputable def T64 (n : Nat) : Tab := ⟨[e42 n, e37 n], []⟩
noncomputable def e64 (n : Nat) : Entry := c64.entry Try.prog (T64 n) n
theorem ok64 (n : Nat) : FnOK Try.prog (e64 n) := c64.sound (.cons (ok42 n) (.cons (ok37 n) .nil)) n Try.func64 (by kernel_rfl) (by kernel_rfl)
noncomputable def f64 (n : Nat) (r_ : (Int × (Int × (Int × Int)))) (seed : Int) : Option (List Int × Int) := c64.f Try.prog (T64 n) n (r_, seed)
noncomputable def f64_12 (n m : Nat) (seed : Int) (x8 : Int) (b1002 : (Int × (Int × (Int × Int)))) (l1007 : List Int) : Option (List Int × Int) := c64.LL Try.prog (T64 n) m 12 (seed, (), (), x8) (b1002, l1007, ())
theorem f64_12_zero (n : Nat) (seed : Int) (x8 : Int) (b1002 : (Int × (Int × (Int × Int)))) (l1007 : List Int) : f64_12 n 0 seed x8 b1002 l1007 = none := rfl
theorem f64_12_eq (n m : Nat) (seed : Int) (x8 : Int) (b1002 : (Int × (Int × (Int × Int)))) (l1007 : List Int) : f64_12 n (m + 1) seed x8 b1002 l1007 =
  bif decide (x8 < b1002.snd.snd.fst) then
   (f37 n b1002 x8 seed).bind fun r1 =>
   bif r1.snd.snd != (0 : Int) then
    some ([], r1.snd.snd)
   else
    bif decide ((l1007.length + [r1.fst].length) * (8 : Nat) ≤ Go.Rf.maxBytes) then
     f64_12 n m seed (Go.IntKind.i64.wrap (x8 + (1 : Int))) b1002 (l1007 ++ [r1.fst])
    else
     none
  else
   some (l1007, (0 : Int)) := by kernel_rfl
theorem f64_eq (n : Nat) (r_ : (Int × (Int × (Int × Int)))) (seed : Int) : f64 n r_ seed =
  (f42 n r_).bind fun r1 =>
  bif r1 != (0 : Int) then
   some ([], r1)
  else
   f64_12 n n seed (1 : Int) r_ [] := by kernel_rfl
/- convoy/retry.Whole -/
noncomputable def c65 : Cfg := ⟨65, Try.f65, [(.agg (.pair (.int .i64) (.pair (.int .i64) (.pair (.int .i64) (.int .i64)))))], [(.int .u64), (.int .u64), (.int .i64)], 5, [], []⟩
noncomputable def T65 (n : Nat) : Tab := ⟨[e42 n, e64 n, e35 n], []⟩
noncomputable def e65 (n : Nat) : Entry := c65.entry Try.prog (T65 n) n
theorem ok65 (n : Nat) : FnOK Try.prog (e65 n) := c65.sound (.cons (ok42 n) (.cons (ok64 n) (.cons (ok35 n) .nil))) n Try.func65 (by kernel_rfl) (by kernel_rfl)
noncomputable def f65 (n : Nat) (r_ : (Int × (Int × (Int × Int)))) : Option (Int × Int × Int) := c65.f Try.prog (T65 n) n r_
theorem f65_eq (n : Nat) (r_ : (Int × (Int × (Int × Int)))) : f65 n r_ =
  (f42 n r_).bind fun r1 =>
  bif r1 != (0 : Int) then
   some ((0 : Int), (0 : Int), r1)
  else
   (f64 n (r_.fst, r_.snd.fst, r_.snd.snd.fst, (0 : Int)) (0 : Int)).bind fun r2 =>
   bif r2.snd != (0 : Int) then
    some ((0 : Int), (0 : Int), r2.snd)
   else
    (f35 n r2.1).bind fun r3 =>
    some (r3.fst, r3.snd.fst, r3.snd.snd) := by kernel_rfl
/- convoy/convoylaw17.RetryPlans -/
noncomputable def c13 : Cfg := ⟨13, Try.f13, [(.agg (.pair (.int .i64) (.pair (.int .i64) (.pair (.int .i64) (.int .i64))))), (.int .u64)], [.bool], 7, [], [(22, ⟨127, 7, [(1, (.val (.int .u64))), (2, (.ptr 1002 [])), (5, (.val (.sl 2 (.int .i64)))), (7, (.val (.int .u64))), (8, (.val (.int .u64))), (10, (.ptr 1010 [])), (11, (.rs 1078)), (12, (.val (.int .i64)))], [(1002, .box (.val (.agg (.pair (.int .i64) (.pair (.int .i64) (.pair (.int .i64) (.int .i64))))))), (1010, .box (.val (.agg (.pair (.int .i64) (.pair (.int .i64) (.pair (.int .i64) (.int .i64))))))), (1078, .row 2 (.int .i64))]⟩)]⟩
noncomputable def T13 (n : Nat) : Tab := ⟨[e64 n, e65 n, e41 n, e39 n, e40 n, e38 n, e36 n], []⟩
noncomputable def e13 (n : Nat) : Entry := c13.entry Try.prog (T13 n) n
theorem ok13 (n : Nat) : FnOK Try.prog (e13 n) := c13.sound (.cons (ok64 n) (.cons (ok65 n) (.cons (ok41 n) (.cons (ok39 n) (.cons (ok40 n) (.cons (ok38 n) (.cons (ok36 n) .nil))))))) n Try.func13 (by kernel_rfl) (by kernel_rfl)
noncomputable def f13 (n : Nat) (r_ : (Int × (Int × (Int × Int)))) (seed : Int) : Option (Bool) := c13.f Try.prog (T13 n) n (r_, seed)
noncomputable def f13_22 (n m : Nat) (seed : Int) (l : List Int) (hi : Int) (lo : Int) (x12 : Int) (b1002 : (Int × (Int × (Int × Int)))) (b1010 : (Int × (Int × (Int × Int)))) (l1078 : List Int) : Option (Bool) := c13.LL Try.prog (T13 n) m 22 (seed, (), l, hi, lo, (), (), x12) (b1002, b1010, l1078, ())
theorem f13_22_zero (n : Nat) (seed : Int) (l : List Int) (hi : Int) (lo : Int) (x12 : Int) (b1002 : (Int × (Int × (Int × Int)))) (b1010 : (Int × (Int × (Int × Int)))) (l1078 : List Int) : f13_22 n 0 seed l hi lo x12 b1002 b1010 l1078 = none := rfl
theorem f13_22_eq (n m : Nat) (seed : Int) (l : List Int) (hi : Int) (lo : Int) (x12 : Int) (b1002 : (Int × (Int × (Int × Int)))) (b1010 : (Int × (Int × (Int × Int)))) (l1078 : List Int) : f13_22 n (m + 1) seed l hi lo x12 b1002 b1010 l1078 =
  bif decide (x12 < b1002.snd.snd.fst) then
   (f39 n b1002).bind fun r1 =>
   (f38 n r1 x12 seed).bind fun r2 =>
   bif decide ((0 : Int) ≤ Go.IntKind.i64.wrap (x12 - (1 : Int)) ∧ Go.IntKind.i64.wrap (x12 - (1 : Int)) < ↑l.length) then
    bif l.getD (Go.IntKind.i64.wrap (x12 - (1 : Int))).toNat (0 : Int) != r2.fst then
     some false
    else
     (f38 n b1010 x12 seed).bind fun r3 =>
     bif decide ((l1078.length + [r3.fst].length) * (8 : Nat) ≤ Go.Rf.maxBytes) then
      f13_22 n m seed l hi lo (Go.IntKind.i64.wrap (x12 + (1 : Int))) b1002 b1010 (l1078 ++ [r3.fst])
     else
      none
   else
    none
  else
   (f36 n l1078).bind fun r4 =>
   bif hi == r4.fst then
    some (lo == r4.snd.fst)
   else
    some false := by kernel_rfl
theorem f13_eq (n : Nat) (r_ : (Int × (Int × (Int × Int)))) (seed : Int) : f13 n r_ seed =
  (f64 n r_ seed).bind fun r1 =>
  (f65 n r_).bind fun r2 =>
  (f41 n).bind fun r3 =>
  bif !r3 then
   (f41 n).bind fun r4 =>
   bif r4 then
    bif ↑(List.length r1.fst) == (0 : Int) then
     bif r1.snd == (170 : Int) then
      bif r2.fst == (0 : Int) then
       bif r2.snd.fst == (0 : Int) then
        some (r2.snd.snd == (170 : Int))
       else
        some false
      else
       some false
     else
      some false
    else
     some false
   else
    some false
  else
   (f39 n r_).bind fun r5 =>
   (f40 n r5).bind fun r6 =>
   bif !r6 then
    (f41 n).bind fun r7 =>
    bif r7 then
     bif ↑(List.length r1.fst) == (0 : Int) then
      bif r1.snd == (170 : Int) then
       bif r2.fst == (0 : Int) then
        bif r2.snd.fst == (0 : Int) then
         some (r2.snd.snd == (170 : Int))
        else
         some false
       else
        some false
      else
       some false
     else
      some false
    else
     some false
   else
    bif r1.snd != (0 : Int) then
     some false
    else
     bif r2.snd.snd != (0 : Int) then
      some false
     else
      bif ↑(List.length r1.fst) != Go.IntKind.i64.wrap (r_.snd.snd.fst - (1 : Int)) then
       some false
      else
       (f39 n r_).bind fun r8 =>
       f13_22 n n seed r1.fst r2.fst r2.snd.fst (1 : Int) r_ ((r8.fst, r8.snd.fst, r8.snd.snd.fst, (0 : Int))) [] := by kernel_rfl
end Go.Proofs.Ytnlnfmakcnadlaa
