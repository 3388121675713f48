/- What functions compute: printed, and checked by the kernel. -/
import Derived.Test.YtaakmifjkobkgaaDoorGa
import Derived.Test.YtaakmifjkobkgaaDoorGs2
namespace Go.Proofs.YtaakmifjkobkgaaDoor
open Go.Rf
/- convoy/tick.Mix -/
noncomputable def c26 : Cfg := ⟨26, Tryd.f26, [(.int .u64)], [(.int .u64)], 5, [], []⟩
noncomputable def T26 (_ : Nat) : Tab := ⟨[], []⟩
noncomputable def e26 (n : Nat) : Entry := c26.entry Tryd.prog (T26 n) n
theorem ok26 {W0 : World} (n : Nat) : FnOK Tryd.prog W0 (e26 n) := c26.sound .nil n Tryd.func26 (by kernel_rfl) (by kernel_rfl)
noncomputable def f26 (n : Nat) (x : Int) : Option (Int) := c26.f Tryd.prog (T26 n) n x
theorem f26_eq (n : Nat) (x : Int) : f26 n x =
  some (Go.IntKind.u64.wrap ↑(BitVec.ofInt (64 : Nat) (Go.IntKind.u64.wrap (Go.IntKind.u64.wrap ↑(BitVec.ofInt (64 : Nat) (Go.IntKind.u64.wrap (Go.IntKind.u64.wrap ↑(BitVec.ofInt (64 : Nat) x ^^^ BitVec.ofInt (64 : Nat) (x.fdiv ((2 : Int) ^ (30 : Nat)))).toNat * (13787848793156543929 : Int))) ^^^ BitVec.ofInt (64 : Nat) ((Go.IntKind.u64.wrap (Go.IntKind.u64.wrap ↑(BitVec.ofInt (64 : Nat) x ^^^ BitVec.ofInt (64 : Nat) (x.fdiv ((2 : Int) ^ (30 : Nat)))).toNat * (13787848793156543929 : Int))).fdiv ((2 : Int) ^ (27 : Nat)))).toNat * (10723151780598845931 : Int))) ^^^ BitVec.ofInt (64 : Nat) ((Go.IntKind.u64.wrap (Go.IntKind.u64.wrap ↑(BitVec.ofInt (64 : Nat) (Go.IntKind.u64.wrap (Go.IntKind.u64.wrap ↑(BitVec.ofInt (64 : Nat) x ^^^ BitVec.ofInt (64 : Nat) (x.fdiv ((2 : Int) ^ (30 : Nat)))).toNat * (13787848793156543929 : Int))) ^^^ BitVec.ofInt (64 : Nat) ((Go.IntKind.u64.wrap (Go.IntKind.u64.wrap ↑(BitVec.ofInt (64 : Nat) x ^^^ BitVec.ofInt (64 : Nat) (x.fdiv ((2 : Int) ^ (30 : Nat)))).toNat * (13787848793156543929 : Int))).fdiv ((2 : Int) ^ (27 : Nat)))).toNat * (10723151780598845931 : Int))).fdiv ((2 : Int) ^ (31 : Nat)))).toNat) := by kernel_rfl
/- convoy/convoyref01.Mix -/
noncomputable def c28 : Cfg := ⟨28, Tryd.f28, [(.int .u64)], [(.int .u64)], 5, [], []⟩
noncomputable def T28 (_ : Nat) : Tab := ⟨[], []⟩
noncomputable def e28 (n : Nat) : Entry := c28.entry Tryd.prog (T28 n) n
theorem ok28 {W0 : World} (n : Nat) : FnOK Tryd.prog W0 (e28 n) := c28.sound .nil n Tryd.func28 (by kernel_rfl) (by kernel_rfl)
noncomputable def f28 (n : Nat) (x : Int) : Option (Int) := c28.f Tryd.prog (T28 n) n x
theorem f28_eq (n : Nat) (x : Int) : f28 n x =
  some (Go.IntKind.u64.wrap ↑(BitVec.ofInt (64 : Nat) (Go.IntKind.u64.wrap (Go.IntKind.u64.wrap ↑(BitVec.ofInt (64 : Nat) (Go.IntKind.u64.wrap (Go.IntKind.u64.wrap ↑(BitVec.ofInt (64 : Nat) x ^^^ BitVec.ofInt (64 : Nat) (Go.IntKind.u64.wrap (x.tdiv (1073741824 : Int)))).toNat * (13787848793156543929 : Int))) ^^^ BitVec.ofInt (64 : Nat) (Go.IntKind.u64.wrap ((Go.IntKind.u64.wrap (Go.IntKind.u64.wrap ↑(BitVec.ofInt (64 : Nat) x ^^^ BitVec.ofInt (64 : Nat) (Go.IntKind.u64.wrap (x.tdiv (1073741824 : Int)))).toNat * (13787848793156543929 : Int))).tdiv (134217728 : Int)))).toNat * (10723151780598845931 : Int))) ^^^ BitVec.ofInt (64 : Nat) (Go.IntKind.u64.wrap ((Go.IntKind.u64.wrap (Go.IntKind.u64.wrap ↑(BitVec.ofInt (64 : Nat) (Go.IntKind.u64.wrap (Go.IntKind.u64.wrap ↑(BitVec.ofInt (64 : Nat) x ^^^ BitVec.ofInt (64 : Nat) (Go.IntKind.u64.wrap (x.tdiv (1073741824 : Int)))).toNat * (13787848793156543929 : Int))) ^^^ BitVec.ofInt (64 : Nat) (Go.IntKind.u64.wrap ((Go.IntKind.u64.wrap (Go.IntKind.u64.wrap ↑(BitVec.ofInt (64 : Nat) x ^^^ BitVec.ofInt (64 : Nat) (Go.IntKind.u64.wrap (x.tdiv (1073741824 : Int)))).toNat * (13787848793156543929 : Int))).tdiv (134217728 : Int)))).toNat * (10723151780598845931 : Int))).tdiv (2147483648 : Int)))).toNat) := by kernel_rfl
/- math/bits.Mul64 -/
noncomputable def c40 : Cfg := ⟨40, Tryd.f40, [(.int .u64), (.int .u64)], [(.int .u64), (.int .u64)], 6, [], []⟩
noncomputable def T40 (_ : Nat) : Tab := ⟨[], []⟩
noncomputable def e40 (n : Nat) : Entry := c40.entry Tryd.prog (T40 n) n
theorem ok40 {W0 : World} (n : Nat) : FnOK Tryd.prog W0 (e40 n) := c40.sound .nil n Tryd.func40 (by kernel_rfl) (by kernel_rfl)
noncomputable def f40 (n : Nat) (x : Int) (y : Int) : Option (Int × Int) := c40.f Tryd.prog (T40 n) n (x, y)
theorem f40_eq (n : Nat) (x : Int) (y : Int) : f40 n x y =
  some (Go.IntKind.u64.wrap (Go.IntKind.u64.wrap (Go.IntKind.u64.wrap (x.fdiv ((2 : Int) ^ (32 : Nat)) * y.fdiv ((2 : Int) ^ (32 : Nat))) + (Go.IntKind.u64.wrap (Go.IntKind.u64.wrap (x.fdiv ((2 : Int) ^ (32 : Nat)) * Go.IntKind.u64.wrap ↑(BitVec.ofInt (64 : Nat) y &&& BitVec.ofInt (64 : Nat) (4294967295 : Int)).toNat) + (Go.IntKind.u64.wrap (Go.IntKind.u64.wrap ↑(BitVec.ofInt (64 : Nat) x &&& BitVec.ofInt (64 : Nat) (4294967295 : Int)).toNat * Go.IntKind.u64.wrap ↑(BitVec.ofInt (64 : Nat) y &&& BitVec.ofInt (64 : Nat) (4294967295 : Int)).toNat)).fdiv ((2 : Int) ^ (32 : Nat)))).fdiv ((2 : Int) ^ (32 : Nat))) + (Go.IntKind.u64.wrap (Go.IntKind.u64.wrap ↑(BitVec.ofInt (64 : Nat) (Go.IntKind.u64.wrap (Go.IntKind.u64.wrap (x.fdiv ((2 : Int) ^ (32 : Nat)) * Go.IntKind.u64.wrap ↑(BitVec.ofInt (64 : Nat) y &&& BitVec.ofInt (64 : Nat) (4294967295 : Int)).toNat) + (Go.IntKind.u64.wrap (Go.IntKind.u64.wrap ↑(BitVec.ofInt (64 : Nat) x &&& BitVec.ofInt (64 : Nat) (4294967295 : Int)).toNat * Go.IntKind.u64.wrap ↑(BitVec.ofInt (64 : Nat) y &&& BitVec.ofInt (64 : Nat) (4294967295 : Int)).toNat)).fdiv ((2 : Int) ^ (32 : Nat)))) &&& BitVec.ofInt (64 : Nat) (4294967295 : Int)).toNat + Go.IntKind.u64.wrap (Go.IntKind.u64.wrap ↑(BitVec.ofInt (64 : Nat) x &&& BitVec.ofInt (64 : Nat) (4294967295 : Int)).toNat * y.fdiv ((2 : Int) ^ (32 : Nat))))).fdiv ((2 : Int) ^ (32 : Nat))), Go.IntKind.u64.wrap (x * y)) := by kernel_rfl
/- convoy/tick.Part -/
noncomputable def c25 : Cfg := ⟨25, Tryd.f25, [(.int .u64), (.int .i64)], [(.int .i64), (.int .i64)], 5, [], []⟩
noncomputable def T25 (n : Nat) : Tab := ⟨[e40 n], []⟩
noncomputable def e25 (n : Nat) : Entry := c25.entry Tryd.prog (T25 n) n
theorem ok25 {W0 : World} (n : Nat) : FnOK Tryd.prog W0 (e25 n) := c25.sound (.cons (ok40 n) .nil) n Tryd.func25 (by kernel_rfl) (by kernel_rfl)
noncomputable def f25 (n : Nat) (x : Int) (parts : Int) : Option (Int × Int) := c25.f Tryd.prog (T25 n) n (x, parts)
theorem f25_eq (n : Nat) (x : Int) (parts : Int) : f25 n x parts =
  bif decide (parts < (1 : Int)) then
   some ((0 : Int), (1 : Int))
  else
   (f40 n x (Go.IntKind.u64.wrap parts)).bind fun r1 =>
   some (Go.IntKind.i64.wrap r1.fst, (0 : Int)) := by kernel_rfl
/- convoy/convoyref01.High -/
noncomputable def c41 : Cfg := ⟨41, Tryd.f41, [(.int .u64), (.int .u64)], [(.int .u64)], 6, [], []⟩
noncomputable def T41 (_ : Nat) : Tab := ⟨[], []⟩
noncomputable def e41 (n : Nat) : Entry := c41.entry Tryd.prog (T41 n) n
theorem ok41 {W0 : World} (n : Nat) : FnOK Tryd.prog W0 (e41 n) := c41.sound .nil n Tryd.func41 (by kernel_rfl) (by kernel_rfl)
noncomputable def f41 (n : Nat) (x : Int) (y : Int) : Option (Int) := c41.f Tryd.prog (T41 n) n (x, y)
theorem f41_eq (n : Nat) (x : Int) (y : Int) : f41 n x y =
  some (Go.IntKind.u64.wrap (Go.IntKind.u64.wrap (Go.IntKind.u64.wrap (Go.IntKind.u64.wrap (x.tdiv (4294967296 : Int)) * Go.IntKind.u64.wrap (y.tdiv (4294967296 : Int))) + Go.IntKind.u64.wrap ((Go.IntKind.u64.wrap (Go.IntKind.u64.wrap (Go.IntKind.u64.wrap (x.tdiv (4294967296 : Int)) * y.tmod (4294967296 : Int)) + Go.IntKind.u64.wrap ((Go.IntKind.u64.wrap (x.tmod (4294967296 : Int) * y.tmod (4294967296 : Int))).tdiv (4294967296 : Int)))).tdiv (4294967296 : Int))) + Go.IntKind.u64.wrap ((Go.IntKind.u64.wrap (Go.IntKind.u64.wrap (x.tmod (4294967296 : Int) * Go.IntKind.u64.wrap (y.tdiv (4294967296 : Int))) + (Go.IntKind.u64.wrap (Go.IntKind.u64.wrap (Go.IntKind.u64.wrap (x.tdiv (4294967296 : Int)) * y.tmod (4294967296 : Int)) + Go.IntKind.u64.wrap ((Go.IntKind.u64.wrap (x.tmod (4294967296 : Int) * y.tmod (4294967296 : Int))).tdiv (4294967296 : Int)))).tmod (4294967296 : Int))).tdiv (4294967296 : Int)))) := by kernel_rfl
/- convoy/convoyref01.Part -/
noncomputable def c27 : Cfg := ⟨27, Tryd.f27, [(.int .u64), (.int .i64)], [(.int .i64), (.int .i64)], 4, [], []⟩
noncomputable def T27 (n : Nat) : Tab := ⟨[e41 n], []⟩
noncomputable def e27 (n : Nat) : Entry := c27.entry Tryd.prog (T27 n) n
theorem ok27 {W0 : World} (n : Nat) : FnOK Tryd.prog W0 (e27 n) := c27.sound (.cons (ok41 n) .nil) n Tryd.func27 (by kernel_rfl) (by kernel_rfl)
noncomputable def f27 (n : Nat) (x : Int) (parts : Int) : Option (Int × Int) := c27.f Tryd.prog (T27 n) n (x, parts)
theorem f27_eq (n : Nat) (x : Int) (parts : Int) : f27 n x parts =
  bif decide (parts < (1 : Int)) then
   some ((0 : Int), (1 : Int))
  else
   (f41 n x (Go.IntKind.u64.wrap parts)).bind fun r1 =>
   some (Go.IntKind.i64.wrap r1, (0 : Int)) := by kernel_rfl
/- convoy/story.Draw -/
noncomputable def c12 : Cfg := ⟨12, Tryd.f12, [(.int .i64), (.int .i64), (.int .u64)], [(.int .i64)], 5, [], []⟩
noncomputable def T12 (n : Nat) : Tab := ⟨[e26 n, e25 n], []⟩
noncomputable def e12 (n : Nat) : Entry := c12.entry Tryd.prog (T12 n) n
theorem ok12 {W0 : World} (n : Nat) : FnOK Tryd.prog W0 (e12 n) := c12.sound (.cons (ok26 n) (.cons (ok25 n) .nil)) n Tryd.func12 (by kernel_rfl) (by kernel_rfl)
noncomputable def f12 (n : Nat) (a0 : Int) (i : Int) (seed : Int) : Option (Int) := c12.f Tryd.prog (T12 n) n (a0, i, seed)
theorem f12_eq (n : Nat) (a0 : Int) (i : Int) (seed : Int) : f12 n a0 i seed =
  (f26 n (Go.IntKind.u64.wrap (seed + Go.IntKind.u64.wrap (Go.IntKind.u64.wrap i * (11400714819323198485 : Int))))).bind fun r1 =>
  (f25 n r1 a0).bind fun r2 =>
  some r2.fst := by kernel_rfl
/- convoy/convoyref29.Draw -/
noncomputable def c13 : Cfg := ⟨13, Tryd.f13, [(.int .i64), (.int .i64), (.int .u64)], [(.int .i64)], 5, [], []⟩
noncomputable def T13 (n : Nat) : Tab := ⟨[e28 n, e27 n], []⟩
noncomputable def e13 (n : Nat) : Entry := c13.entry Tryd.prog (T13 n) n
theorem ok13 {W0 : World} (n : Nat) : FnOK Tryd.prog W0 (e13 n) := c13.sound (.cons (ok28 n) (.cons (ok27 n) .nil)) n Tryd.func13 (by kernel_rfl) (by kernel_rfl)
noncomputable def f13 (n : Nat) (a0 : Int) (i : Int) (seed : Int) : Option (Int) := c13.f Tryd.prog (T13 n) n (a0, i, seed)
theorem f13_eq (n : Nat) (a0 : Int) (i : Int) (seed : Int) : f13 n a0 i seed =
  bif decide (a0 < (1 : Int)) then
   some (0 : Int)
  else
   (f28 n (Go.IntKind.u64.wrap (seed + Go.IntKind.u64.wrap (Go.IntKind.u64.wrap i * (11400714819323198485 : Int))))).bind fun r1 =>
   (f27 n r1 a0).bind fun r2 =>
   some r2.fst := by kernel_rfl
/- convoy/convoyref29.Shuffle -/
noncomputable def c11 : Cfg := ⟨11, Tryd.f11, [(.int .i64), (.int .u64)], [(.sl 3 (.int .i64))], 6, [], [(10, ⟨54, 6, [(0, (.val (.int .i64))), (1, (.val (.int .u64))), (5, (.rs 1010)), (6, (.val (.int .i64)))], [(1010, .row 3 (.int .i64))]⟩), (18, ⟨54, 6, [(1, (.val (.int .u64))), (5, (.rs 1010)), (7, (.val (.int .i64)))], [(1010, .row 3 (.int .i64))]⟩)]⟩
noncomputable def T11 (n : Nat) : Tab := ⟨[e13 n], []⟩
noncomputable def e11 (n : Nat) : Entry := c11.entry Tryd.prog (T11 n) n
theorem ok11 {W0 : World} (n : Nat) : FnOK Tryd.prog W0 (e11 n) := c11.sound (.cons (ok13 n) .nil) n Tryd.func11 (by kernel_rfl) (by kernel_rfl)
noncomputable def f11 (n : Nat) (a0 : Int) (seed : Int) : Option (List Int) := c11.f Tryd.prog (T11 n) n (a0, seed)
noncomputable def f11_10 (n m : Nat) (x0 : Int) (seed : Int) (i : Int) (l1010 : List Int) : Option (List Int) := c11.LL Tryd.prog (T11 n) m 10 (x0, seed, (), i) (l1010, ())
noncomputable def f11_18 (n m : Nat) (seed : Int) (i : Int) (l1010 : List Int) : Option (List Int) := c11.LL Tryd.prog (T11 n) m 18 (seed, (), i) (l1010, ())
theorem f11_10_zero (n : Nat) (x0 : Int) (seed : Int) (i : Int) (l1010 : List Int) : f11_10 n 0 x0 seed i l1010 = none := rfl
theorem f11_10_eq (n m : Nat) (x0 : Int) (seed : Int) (i : Int) (l1010 : List Int) : f11_10 n (m + 1) x0 seed i l1010 =
  bif decide (i < x0) then
   bif decide ((l1010.length + [i].length) * (8 : Nat) ≤ Go.Rf.maxBytes) then
    f11_10 n m x0 seed (Go.IntKind.i64.wrap (i + (1 : Int))) (l1010 ++ [i])
   else
    none
  else
   f11_18 n m seed (Go.IntKind.i64.wrap (x0 - (1 : Int))) l1010 := by kernel_rfl
theorem f11_18_zero (n : Nat) (seed : Int) (i : Int) (l1010 : List Int) : f11_18 n 0 seed i l1010 = none := rfl
theorem f11_18_eq (n m : Nat) (seed : Int) (i : Int) (l1010 : List Int) : f11_18 n (m + 1) seed i l1010 =
  bif decide (i ≥ (1 : Int)) then
   (f13 n (Go.IntKind.i64.wrap (i + (1 : Int))) i seed).bind fun r1 =>
   bif decide ((0 : Int) ≤ i ∧ i < ↑l1010.length) then
    bif decide ((0 : Int) ≤ r1 ∧ r1 < ↑l1010.length) then
     bif decide ((0 : Int) ≤ i ∧ i < ↑l1010.length) then
      bif decide ((0 : Int) ≤ r1 ∧ r1 < ↑(l1010.set i.toNat (l1010.getD (Int.toNat r1) (0 : Int))).length) then
       f11_18 n m seed (Go.IntKind.i64.wrap (i - (1 : Int))) ((l1010.set i.toNat (l1010.getD (Int.toNat r1) (0 : Int))).set (Int.toNat r1) (l1010.getD i.toNat (0 : Int)))
      else
       none
     else
      none
    else
     none
   else
    none
  else
   some l1010 := by kernel_rfl
theorem f11_eq (n : Nat) (a0 : Int) (seed : Int) : f11 n a0 seed =
  bif decide (a0 < (1 : Int)) then
   some []
  else
   bif decide (a0 > (65536 : Int)) then
    some []
   else
    f11_10 n n a0 seed (0 : Int) [] := by kernel_rfl
/- convoy/story.Shuffle -/
noncomputable def c10 : Cfg := ⟨10, Tryd.f10, [(.int .i64), (.int .u64)], [(.sl 3 (.int .i64))], 6, [], [(10, ⟨53, 6, [(0, (.val (.int .i64))), (1, (.val (.int .u64))), (5, (.rs 1016)), (18, (.val (.int .i64))), (19, (.val (.int .i64)))], [(1016, .row 3 (.int .i64))]⟩), (20, ⟨53, 6, [(1, (.val (.int .u64))), (5, (.rs 1016)), (7, (.val (.int .i64)))], [(1016, .row 3 (.int .i64))]⟩)]⟩
noncomputable def T10 (n : Nat) : Tab := ⟨[e12 n], []⟩
noncomputable def e10 (n : Nat) : Entry := c10.entry Tryd.prog (T10 n) n
theorem ok10 {W0 : World} (n : Nat) : FnOK Tryd.prog W0 (e10 n) := c10.sound (.cons (ok12 n) .nil) n Tryd.func10 (by kernel_rfl) (by kernel_rfl)
noncomputable def f10 (n : Nat) (a0 : Int) (seed : Int) : Option (List Int) := c10.f Tryd.prog (T10 n) n (a0, seed)
noncomputable def f10_10 (n m : Nat) (x0 : Int) (seed : Int) (x18 : Int) (x19 : Int) (l1016 : List Int) : Option (List Int) := c10.LL Tryd.prog (T10 n) m 10 (x0, seed, (), x18, x19) (l1016, ())
noncomputable def f10_20 (n m : Nat) (seed : Int) (i : Int) (l1016 : List Int) : Option (List Int) := c10.LL Tryd.prog (T10 n) m 20 (seed, (), i) (l1016, ())
theorem f10_10_zero (n : Nat) (x0 : Int) (seed : Int) (x18 : Int) (x19 : Int) (l1016 : List Int) : f10_10 n 0 x0 seed x18 x19 l1016 = none := rfl
theorem f10_10_eq (n m : Nat) (x0 : Int) (seed : Int) (x18 : Int) (x19 : Int) (l1016 : List Int) : f10_10 n (m + 1) x0 seed x18 x19 l1016 =
  bif decide (x19 < x18) then
   bif decide ((0 : Int) ≤ x19 ∧ x19 < ↑l1016.length) then
    f10_10 n m x0 seed x18 (Go.IntKind.i64.wrap (x19 + (1 : Int))) (l1016.set x19.toNat x19)
   else
    none
  else
   f10_20 n m seed (Go.IntKind.i64.wrap (x0 - (1 : Int))) l1016 := by kernel_rfl
theorem f10_20_zero (n : Nat) (seed : Int) (i : Int) (l1016 : List Int) : f10_20 n 0 seed i l1016 = none := rfl
theorem f10_20_eq (n m : Nat) (seed : Int) (i : Int) (l1016 : List Int) : f10_20 n (m + 1) seed i l1016 =
  bif decide (i > (0 : Int)) then
   (f12 n (Go.IntKind.i64.wrap (i + (1 : Int))) i seed).bind fun r1 =>
   bif decide ((0 : Int) ≤ r1 ∧ r1 < ↑l1016.length) then
    bif decide ((0 : Int) ≤ i ∧ i < ↑l1016.length) then
     bif decide ((0 : Int) ≤ i ∧ i < ↑l1016.length) then
      bif decide ((0 : Int) ≤ r1 ∧ r1 < ↑(l1016.set i.toNat (l1016.getD (Int.toNat r1) (0 : Int))).length) then
       f10_20 n m seed (Go.IntKind.i64.wrap (i - (1 : Int))) ((l1016.set i.toNat (l1016.getD (Int.toNat r1) (0 : Int))).set (Int.toNat r1) (l1016.getD i.toNat (0 : Int)))
      else
       none
     else
      none
    else
     none
   else
    none
  else
   some l1016 := by kernel_rfl
theorem f10_eq (n : Nat) (a0 : Int) (seed : Int) : f10 n a0 seed =
  bif decide (a0 < (1 : Int)) then
   some []
  else
   bif decide (a0 > (65536 : Int)) then
    some []
   else
    bif decide ((0 : Int) ≤ a0 ∧ a0 ≤ a0 ∧ a0 * ↑(8 : Nat) ≤ ↑Go.Rf.maxBytes) then
     f10_10 n n a0 seed (↑(List.replicate a0.toNat (0 : Int)).length) (0 : Int) (List.replicate a0.toNat (0 : Int))
    else
     none := by kernel_rfl
noncomputable def s30x0 : ByteArray := { data := #[45] }
/- convoy/convoyref03.Number -/
noncomputable def c30 : Cfg := ⟨30, Tryd.f30, [(.int .i64)], [.str], 6, [3], [(7, ⟨44, 6, [(0, (.val (.int .i64))), (2, (.val .str))], []⟩)]⟩
noncomputable def f30 : Nat → Int → Option (ByteArray)
  | 0, _ => none
  | n + 1, a0 => c30.f Tryd.prog ⟨[⟨30, [(.int .i64)], [.str], fun y => f30 n y⟩], []⟩ (n + 1) a0
noncomputable def e30 (n : Nat) : Entry := ⟨30, [(.int .i64)], [.str], fun y => f30 n y⟩
noncomputable def T30 (n : Nat) : Tab := ⟨[⟨30, [(.int .i64)], [.str], fun y => f30 n y⟩], []⟩
theorem ok30 {W0 : World} : ∀ n : Nat, FnOK Tryd.prog W0 (e30 n)
  | 0 => fun _ _ _ _ _ h => by cases h
  | n + 1 => c30.sound (C := T30 n) (.cons (ok30 n) .nil) (n + 1) Tryd.func30 (by kernel_rfl) (by kernel_rfl)
noncomputable def f30_7 (n m : Nat) (x0 : Int) (x2 : ByteArray) : Option (ByteArray) := c30.LL Tryd.prog (T30 n) m 7 (x0, x2) ()
theorem f30_7_zero (n : Nat) (x0 : Int) (x2 : ByteArray) : f30_7 n 0 x0 x2 = none := rfl
theorem f30_7_eq (n m : Nat) (x0 : Int) (x2 : ByteArray) : f30_7 n (m + 1) x0 x2 =
  bif decide (x0 ≥ (10 : Int)) then
   Go.Rf.both ((f30 n (Go.IntKind.i64.wrap (x0.tdiv (10 : Int)))).bind fun r1 =>
    bif decide (↑(ByteArray.size r1 + (Go.Rf.mkBytes [Go.IntKind.u8.wrap (Go.IntKind.i64.wrap ((48 : Int) + x0.tmod (10 : Int)))]).size) > Int.ofNat (9223372036854775807 : Nat)) then
     none
    else
     some (r1 ++ Go.Rf.mkBytes [Go.IntKind.u8.wrap (Go.IntKind.i64.wrap ((48 : Int) + x0.tmod (10 : Int)))]))
    ((f30 n (Go.IntKind.i64.wrap (x0.tdiv (10 : Int)))).bind fun r2 =>
    bif decide (↑(ByteArray.size r2 + (Go.Rf.mkBytes [Go.IntKind.u8.wrap (Go.IntKind.i64.wrap ((48 : Int) + x0.tmod (10 : Int)))]).size) > Int.ofNat (9223372036854775807 : Nat)) then
     none
    else
     some (r2 ++ Go.Rf.mkBytes [Go.IntKind.u8.wrap (Go.IntKind.i64.wrap ((48 : Int) + x0.tmod (10 : Int)))]))
  else
   bif decide (x0 > (-10 : Int)) then
    some (s30x0 ++ Go.Rf.mkBytes [Go.IntKind.u8.wrap (Go.IntKind.i64.wrap ((48 : Int) - x0))])
   else
    Go.Rf.both ((f30 n (Go.IntKind.i64.wrap (x0.tdiv (10 : Int)))).bind fun r3 =>
     bif decide (↑(ByteArray.size r3 + (Go.Rf.mkBytes [Go.IntKind.u8.wrap (Go.IntKind.i64.wrap ((48 : Int) - x0.tmod (10 : Int)))]).size) > Int.ofNat (9223372036854775807 : Nat)) then
      none
     else
      some (r3 ++ Go.Rf.mkBytes [Go.IntKind.u8.wrap (Go.IntKind.i64.wrap ((48 : Int) - x0.tmod (10 : Int)))]))
     ((f30 n (Go.IntKind.i64.wrap (x0.tdiv (10 : Int)))).bind fun r4 =>
     bif decide (↑(ByteArray.size r4 + (Go.Rf.mkBytes [Go.IntKind.u8.wrap (Go.IntKind.i64.wrap ((48 : Int) - x0.tmod (10 : Int)))]).size) > Int.ofNat (9223372036854775807 : Nat)) then
      none
     else
      some (r4 ++ Go.Rf.mkBytes [Go.IntKind.u8.wrap (Go.IntKind.i64.wrap ((48 : Int) - x0.tmod (10 : Int)))])) := by kernel_rfl
theorem f30_eq (n : Nat) (a0 : Int) : f30 (n + 1) a0 =
  bif decide (a0 ≥ (0 : Int)) then
   bif decide (a0 < (10 : Int)) then
    some (Go.Rf.mkBytes [Go.IntKind.u8.wrap (Go.IntKind.i64.wrap ((48 : Int) + a0))])
   else
    f30_7 n (n + 1) a0 ByteArray.empty
  else
   f30_7 n (n + 1) a0 ByteArray.empty := by kernel_rfl
noncomputable def s16x0 : ByteArray := { data := #[107] }
/- convoy/convoyref29.Key -/
noncomputable def c16 : Cfg := ⟨16, Tryd.f16, [(.int .i64)], [(.agg (.pair (.int .u16) .str))], 4, [], []⟩
noncomputable def T16 (n : Nat) : Tab := ⟨[e30 n], []⟩
noncomputable def e16 (n : Nat) : Entry := c16.entry Tryd.prog (T16 n) n
theorem ok16 {W0 : World} (n : Nat) : FnOK Tryd.prog W0 (e16 n) := c16.sound (.cons (ok30 n) .nil) n Tryd.func16 (by kernel_rfl) (by kernel_rfl)
noncomputable def f16 (n : Nat) (a0 : Int) : Option ((Int × ByteArray)) := c16.f Tryd.prog (T16 n) n a0
theorem f16_eq (n : Nat) (a0 : Int) : f16 n a0 =
  bif decide (a0 < (0 : Int)) then
   (f30 n (0 : Int)).bind fun r1 =>
   bif decide (↑((1 : Nat) + ByteArray.size r1) > Int.ofNat (9223372036854775807 : Nat)) then
    none
   else
    some (((0 : Int), s16x0 ++ r1))
  else
   (f30 n a0).bind fun r2 =>
   bif decide (↑((1 : Nat) + ByteArray.size r2) > Int.ofNat (9223372036854775807 : Nat)) then
    none
   else
    some (((0 : Int), s16x0 ++ r2)) := by kernel_rfl
/- convoy/convoylaw29.key -/
noncomputable def c14 : Cfg := ⟨14, Tryd.f14, [(.agg (.pair (.int .u16) .str)), (.agg (.pair (.int .u16) .str))], [.bool], 5, [], []⟩
noncomputable def T14 (_ : Nat) : Tab := ⟨[], []⟩
noncomputable def e14 (n : Nat) : Entry := c14.entry Tryd.prog (T14 n) n
theorem ok14 {W0 : World} (n : Nat) : FnOK Tryd.prog W0 (e14 n) := c14.sound .nil n Tryd.func14 (by kernel_rfl) (by kernel_rfl)
noncomputable def f14 (n : Nat) (a : (Int × ByteArray)) (b : (Int × ByteArray)) : Option (Bool) := c14.f Tryd.prog (T14 n) n (a, b)
theorem f14_eq (n : Nat) (a : (Int × ByteArray)) (b : (Int × ByteArray)) : f14 n a b =
  bif a.fst == b.fst then
   some (ByteArray.toList a.snd == ByteArray.toList b.snd)
  else
   some false := by kernel_rfl
noncomputable def s15Lx0 : ByteArray := { data := #[107] }
/- convoy/story.Key -/
noncomputable def c15L : Cfg := ⟨15, Tryd.f15, [(.int .i64)], [(.agg (.pair (.int .u16) .str))], 3, [], []⟩
noncomputable def T15L (n : Nat) : Tab := ⟨[e29L n], []⟩
noncomputable def e15L (n : Nat) : Entry := c15L.entry Tryd.prog (T15L n) n
theorem ok15L {W0 : World} (hL : Laid W0) (n : Nat) : FnOK Tryd.prog W0 (e15L n) := c15L.sound (.cons (ok29L hL n) .nil) n Tryd.func15 (by kernel_rfl) (by kernel_rfl)
noncomputable def f15L (n : Nat) (a0 : Int) : Option ((Int × ByteArray)) := c15L.f Tryd.prog (T15L n) n a0
theorem f15L_eq (n : Nat) (a0 : Int) : f15L n a0 =
  (f29L n (if (0 : Int) > a0 then (0 : Int) else a0)).bind fun r1 =>
  bif decide (↑((1 : Nat) + ByteArray.size r1) > Int.ofNat (9223372036854775807 : Nat)) then
   none
  else
   some (((0 : Int), s15Lx0 ++ r1)) := by kernel_rfl
/- convoy/convoylaw29.StoryDraws -/
noncomputable def c4 : Cfg := ⟨4, Tryd.f4, [(.int .i64), (.int .i64), (.int .u64)], [.bool], 7, [], [(14, ⟨67, 7, [(7, (.val (.sl 3 (.int .i64)))), (8, (.val (.sl 3 (.int .i64)))), (9, (.val (.int .i64)))], []⟩)]⟩
noncomputable def T4 (n : Nat) : Tab := ⟨[e10 n, e11 n, e8 n, e12 n, e13 n, e15L n, e16 n, e14 n], []⟩
noncomputable def e4 (n : Nat) : Entry := c4.entry Tryd.prog (T4 n) n
theorem ok4 {W0 : World} (hL : Laid W0) (n : Nat) : FnOK Tryd.prog W0 (e4 n) := c4.sound (.cons (ok10 n) (.cons (ok11 n) (.cons (ok8 n) (.cons (ok12 n) (.cons (ok13 n) (.cons (ok15L hL n) (.cons (ok16 n) (.cons (ok14 n) .nil)))))))) n Tryd.func4 (by kernel_rfl) (by kernel_rfl)
noncomputable def f4 (n : Nat) (a0 : Int) (i : Int) (seed : Int) : Option (Bool) := c4.f Tryd.prog (T4 n) n (a0, i, seed)
noncomputable def f4_14 (n m : Nat) (l : List Int) (want : List Int) (k : Int) : Option (Bool) := c4.LL Tryd.prog (T4 n) m 14 (l, want, k) ()
theorem f4_14_zero (n : Nat) (l : List Int) (want : List Int) (k : Int) : f4_14 n 0 l want k = none := rfl
theorem f4_14_eq (n m : Nat) (l : List Int) (want : List Int) (k : Int) : f4_14 n (m + 1) l want k =
  bif decide (k < ↑l.length) then
   bif decide ((0 : Int) ≤ k ∧ k < ↑l.length) then
    bif decide ((0 : Int) ≤ k ∧ k < ↑want.length) then
     bif l.getD k.toNat (0 : Int) != want.getD k.toNat (0 : Int) then
      some false
     else
      f4_14 n m l want (Go.IntKind.i64.wrap (k + (1 : Int)))
    else
     none
   else
    none
  else
   some true := by kernel_rfl
theorem f4_eq (n : Nat) (a0 : Int) (i : Int) (seed : Int) : f4 n a0 i seed =
  bif decide (a0 > (300 : Int)) then
   bif decide (a0 ≤ (65536 : Int)) then
    (f10 n (a0.tmod (300 : Int)) seed).bind fun r1 =>
    (f11 n (a0.tmod (300 : Int)) seed).bind fun r2 =>
    (f8 n).bind fun r3 =>
    bif !r3 then
     some false
    else
     (f12 n (a0.tmod (300 : Int)) i seed).bind fun r4 =>
     (f13 n (a0.tmod (300 : Int)) i seed).bind fun r5 =>
     bif r4 != r5 then
      some false
     else
      bif (↑(List.length r1) : Int) != ↑(List.length r2) then
       some false
      else
       (f15L n i).bind fun r6 =>
       (f16 n i).bind fun r7 =>
       (f14 n r6 r7).bind fun r8 =>
       bif !r8 then
        some false
       else
        f4_14 n n r1 r2 (0 : Int)
   else
    (f10 n a0 seed).bind fun r9 =>
    (f11 n a0 seed).bind fun r10 =>
    (f8 n).bind fun r11 =>
    bif !r11 then
     some false
    else
     (f12 n a0 i seed).bind fun r12 =>
     (f13 n a0 i seed).bind fun r13 =>
     bif r12 != r13 then
      some false
     else
      bif (↑(List.length r9) : Int) != ↑(List.length r10) then
       some false
      else
       (f15L n i).bind fun r14 =>
       (f16 n i).bind fun r15 =>
       (f14 n r14 r15).bind fun r16 =>
       bif !r16 then
        some false
       else
        f4_14 n n r9 r10 (0 : Int)
  else
   (f10 n a0 seed).bind fun r17 =>
   (f11 n a0 seed).bind fun r18 =>
   (f8 n).bind fun r19 =>
   bif !r19 then
    some false
   else
    (f12 n a0 i seed).bind fun r20 =>
    (f13 n a0 i seed).bind fun r21 =>
    bif r20 != r21 then
     some false
    else
     bif (↑(List.length r17) : Int) != ↑(List.length r18) then
      some false
     else
      (f15L n i).bind fun r22 =>
      (f16 n i).bind fun r23 =>
      (f14 n r22 r23).bind fun r24 =>
      bif !r24 then
       some false
      else
       f4_14 n n r17 r18 (0 : Int) := by kernel_rfl
end Go.Proofs.YtaakmifjkobkgaaDoor
