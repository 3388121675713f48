/- What functions compute: printed, and checked by the kernel. -/
import Derived.Test.YtbmdklndjlmogaaGa
namespace Go.Proofs.Ytbmdklndjlmogaa
open Go.Rf
/- slices.Clone[[]convoy/api.Item,convoy/api.Item] -/
noncomputable def c44o : OCfg := ⟨44, Try.f44, ⟨8, 3, [(0, (.val (.sl 33 (.agg (.pair (.int .i64) (.pair (.agg (.pair (.int .u16) .str)) (.pair (.int .i64) (.sl 35 (.agg (.pair (.int .i64) (.pair (.int .i64) (.int .i64))))))))))))], []⟩, [⟨1, 2, [(0, (.rs 1002))], [(1002, .row 33 (.agg (.pair (.int .i64) (.pair (.agg (.pair (.int .u16) .str)) (.pair (.int .i64) (.sl 35 (.agg (.pair (.int .i64) (.pair (.int .i64) (.int .i64))))))))))]⟩], [], []⟩
noncomputable def T44o (_ : Nat) : Tab := ⟨[], []⟩
noncomputable def e44o (n : Nat) : OE := c44o.entry Try.prog (T44o n) n
theorem ok44o (n : Nat) : OOK Try.prog (e44o n) := c44o.sound .nil n Try.func44 (by kernel_rfl) (by kernel_rfl)
noncomputable def f44o (n : Nat) (s : List (Int × ((Int × ByteArray) × (Int × List (Int × (Int × Int)))))) : Option ((Unit × (List (Int × ((Int × ByteArray) × (Int × List (Int × (Int × Int))))) × Unit))) := c44o.f Try.prog (T44o n) n s ()
theorem f44o_eq (n : Nat) (s : List (Int × ((Int × ByteArray) × (Int × List (Int × (Int × Int)))))) : f44o n s =
  bif s.isEmpty then
   Go.Rf.both (some (((), ([], ()))))
    (bif decide (((0 : Nat) + s.length) * (64 : Nat) ≤ Go.Rf.maxBytes) then
     some (((), ([] ++ s, ())))
    else
     none)
  else
   bif decide (((0 : Nat) + s.length) * (64 : Nat) ≤ Go.Rf.maxBytes) then
    some (((), ([] ++ s, ())))
   else
    none := by kernel_rfl
/- slices.Clone[[]convoy/api.Step,convoy/api.Step] -/
noncomputable def c45o : OCfg := ⟨45, Try.f45, ⟨8, 3, [(0, (.val (.sl 35 (.agg (.pair (.int .i64) (.pair (.int .i64) (.int .i64)))))))], []⟩, [⟨1, 2, [(0, (.rs 1002))], [(1002, .row 35 (.agg (.pair (.int .i64) (.pair (.int .i64) (.int .i64)))))]⟩], [], []⟩
noncomputable def T45o (_ : Nat) : Tab := ⟨[], []⟩
noncomputable def e45o (n : Nat) : OE := c45o.entry Try.prog (T45o n) n
theorem ok45o (n : Nat) : OOK Try.prog (e45o n) := c45o.sound .nil n Try.func45 (by kernel_rfl) (by kernel_rfl)
noncomputable def f45o (n : Nat) (s : List (Int × (Int × Int))) : Option ((Unit × (List (Int × (Int × Int)) × Unit))) := c45o.f Try.prog (T45o n) n s ()
theorem f45o_eq (n : Nat) (s : List (Int × (Int × Int))) : f45o n s =
  bif s.isEmpty then
   Go.Rf.both (some (((), ([], ()))))
    (bif decide (((0 : Nat) + s.length) * (24 : Nat) ≤ Go.Rf.maxBytes) then
     some (((), ([] ++ s, ())))
    else
     none)
  else
   bif decide (((0 : Nat) + s.length) * (24 : Nat) ≤ Go.Rf.maxBytes) then
    some (((), ([] ++ s, ())))
   else
    none := by kernel_rfl
/- slices.Clone[[]convoy/api.Result,convoy/api.Result] -/
noncomputable def c33o : OCfg := ⟨33, Try.f33, ⟨8, 3, [(0, (.val (.sl 53 (.agg (.pair (.int .i64) (.agg (.pair (.int .i64) (.agg (.pair (.int .i64) (.pair (.int .i64) (.int .i64)))))))))))], []⟩, [⟨1, 2, [(0, (.rs 1002))], [(1002, .row 53 (.agg (.pair (.int .i64) (.agg (.pair (.int .i64) (.agg (.pair (.int .i64) (.pair (.int .i64) (.int .i64)))))))))]⟩], [], []⟩
noncomputable def T33o (_ : Nat) : Tab := ⟨[], []⟩
noncomputable def e33o (n : Nat) : OE := c33o.entry Try.prog (T33o n) n
theorem ok33o (n : Nat) : OOK Try.prog (e33o n) := c33o.sound .nil n Try.func33 (by kernel_rfl) (by kernel_rfl)
noncomputable def f33o (n : Nat) (s : List (Int × (Int × (Int × (Int × Int))))) : Option ((Unit × (List (Int × (Int × (Int × (Int × Int)))) × Unit))) := c33o.f Try.prog (T33o n) n s ()
theorem f33o_eq (n : Nat) (s : List (Int × (Int × (Int × (Int × Int))))) : f33o n s =
  bif s.isEmpty then
   Go.Rf.both (some (((), ([], ()))))
    (bif decide (((0 : Nat) + s.length) * (40 : Nat) ≤ Go.Rf.maxBytes) then
     some (((), ([] ++ s, ())))
    else
     none)
  else
   bif decide (((0 : Nat) + s.length) * (40 : Nat) ≤ Go.Rf.maxBytes) then
    some (((), ([] ++ s, ())))
   else
    none := by kernel_rfl
/- convoy/load.copied -/
noncomputable def c28o : OCfg := ⟨28, Try.f28, ⟨23, 5, [(0, (.val (.sl 33 (.agg (.pair (.int .i64) (.pair (.agg (.pair (.int .u16) .str)) (.pair (.int .i64) (.sl 35 (.agg (.pair (.int .i64) (.pair (.int .i64) (.int .i64))))))))))))], []⟩, [⟨1, 2, [(0, (.rs 2005))], [(2005, .row 33 (.agg (.pair (.int .i64) (.pair (.agg (.pair (.int .u16) .str)) (.pair (.int .i64) (.sl 35 (.agg (.pair (.int .i64) (.pair (.int .i64) (.int .i64))))))))))]⟩], [], [(6, ⟨23, 5, [(0, (.rs 2005)), (7, (.val (.int .i64))), (8, (.val (.int .i64)))], [(2005, .row 33 (.agg (.pair (.int .i64) (.pair (.agg (.pair (.int .u16) .str)) (.pair (.int .i64) (.sl 35 (.agg (.pair (.int .i64) (.pair (.int .i64) (.int .i64))))))))))]⟩)]⟩
noncomputable def T28o (n : Nat) : Tab := ⟨[], [e44o n, e45o n]⟩
noncomputable def e28o (n : Nat) : OE := c28o.entry Try.prog (T28o n) n
theorem ok28o (n : Nat) : OOK Try.prog (e28o n) := c28o.sound (.ocons (ok44o n) (.ocons (ok45o n) .nil)) n Try.func28 (by kernel_rfl) (by kernel_rfl)
noncomputable def f28o (n : Nat) (l : List (Int × ((Int × ByteArray) × (Int × List (Int × (Int × Int)))))) : Option ((Unit × (List (Int × ((Int × ByteArray) × (Int × List (Int × (Int × Int))))) × Unit))) := c28o.f Try.prog (T28o n) n l ()
noncomputable def f28o_6 (n m : Nat) (x7 : Int) (x8 : Int) (l2005 : List (Int × ((Int × ByteArray) × (Int × List (Int × (Int × Int)))))) : Option ((Unit × (List (Int × ((Int × ByteArray) × (Int × List (Int × (Int × Int))))) × Unit))) := c28o.LL Try.prog (T28o n) m 6 ((), x7, x8) (l2005, ())
theorem f28o_6_zero (n : Nat) (x7 : Int) (x8 : Int) (l2005 : List (Int × ((Int × ByteArray) × (Int × List (Int × (Int × Int)))))) : f28o_6 n 0 x7 x8 l2005 = none := rfl
theorem f28o_6_eq (n m : Nat) (x7 : Int) (x8 : Int) (l2005 : List (Int × ((Int × ByteArray) × (Int × List (Int × (Int × Int)))))) : f28o_6 n (m + 1) x7 x8 l2005 =
  bif decide (x8 < x7) then
   bif decide ((0 : Int) ≤ x8 ∧ x8 < ↑l2005.length) then
    (f45o n (l2005.getD x8.toNat ((0 : Int), ((0 : Int), ByteArray.empty), (0 : Int), [])).snd.snd.2).bind fun r1 =>
    bif decide ((0 : Int) ≤ x8 ∧ x8 < ↑l2005.length) then
     f28o_6 n m x7 (Go.IntKind.i64.wrap (x8 + (1 : Int))) (l2005.set x8.toNat ((l2005.getD x8.toNat ((0 : Int), ((0 : Int), ByteArray.empty), (0 : Int), [])).fst, (l2005.getD x8.toNat ((0 : Int), ((0 : Int), ByteArray.empty), (0 : Int), [])).snd.fst, (l2005.getD x8.toNat ((0 : Int), ((0 : Int), ByteArray.empty), (0 : Int), [])).snd.snd.fst, r1.snd.1))
    else
     none
   else
    none
  else
   some (((), (l2005, ()))) := by kernel_rfl
theorem f28o_eq (n : Nat) (l : List (Int × ((Int × ByteArray) × (Int × List (Int × (Int × Int)))))) : f28o n l =
  (f44o n l).bind fun r1 =>
  f28o_6 n n (↑(List.length r1.snd.fst)) (0 : Int) r1.snd.fst := by kernel_rfl
/- convoy/load.New -/
noncomputable def c6o : OCfg := ⟨6, Try.f6, ⟨72, 7, [(0, (.val (.int .i64))), (1, (.val (.sl 33 (.agg (.pair (.int .i64) (.pair (.agg (.pair (.int .u16) .str)) (.pair (.int .i64) (.sl 35 (.agg (.pair (.int .i64) (.pair (.int .i64) (.int .i64))))))))))))], []⟩, [⟨3, 3, [(0, .nilp), (1, (.val (.int .i64))), (2, (.val (.int .i64)))], []⟩, ⟨3, 3, [(0, (.ptr 1071 [])), (1, (.val (.int .i64))), (2, (.val (.int .i64)))], [(1071, .box (.agg (.pair (.val (.int .i64)) (.pair (.rs 3005) (.pair (.val (.int .i64)) (.pair (.val .bool) (.pair (.val (.agg (.pair (.int .i64) (.pair (.int .i64) (.pair (.int .i64) (.int .i64)))))) (.pair (.val (.int .i64)) (.pair (.val (.int .i64)) (.pair (.val (.int .i64)) (.pair (.rs 200001) (.val .bool)))))))))))), (3005, .row 33 (.agg (.pair (.int .i64) (.pair (.agg (.pair (.int .u16) .str)) (.pair (.int .i64) (.sl 35 (.agg (.pair (.int .i64) (.pair (.int .i64) (.int .i64)))))))))), (200001, .row 53 (.agg (.pair (.int .i64) (.agg (.pair (.int .i64) (.agg (.pair (.int .i64) (.pair (.int .i64) (.int .i64)))))))))]⟩], [], [(10, ⟨72, 7, [(0, (.val (.int .i64))), (1, (.val (.sl 33 (.agg (.pair (.int .i64) (.pair (.agg (.pair (.int .u16) .str)) (.pair (.int .i64) (.sl 35 (.agg (.pair (.int .i64) (.pair (.int .i64) (.int .i64)))))))))))), (7, (.val (.int .i64))), (25, (.val (.sl 33 (.agg (.pair (.int .i64) (.pair (.agg (.pair (.int .u16) .str)) (.pair (.int .i64) (.sl 35 (.agg (.pair (.int .i64) (.pair (.int .i64) (.int .i64)))))))))))), (26, (.val (.int .i64))), (27, (.val (.int .i64)))], []⟩)]⟩
noncomputable def T6o (n : Nat) : Tab := ⟨[e26 n, e27 n], [e28o n]⟩
noncomputable def e6o (n : Nat) : OE := c6o.entry Try.prog (T6o n) n
theorem ok6o (n : Nat) : OOK Try.prog (e6o n) := c6o.sound (.cons (ok26 n) (.cons (ok27 n) (.ocons (ok28o n) .nil))) n Try.func6 (by kernel_rfl) (by kernel_rfl)
noncomputable def f6o (n : Nat) (number : Int) (items : List (Int × ((Int × ByteArray) × (Int × List (Int × (Int × Int)))))) : Option ((((Unit × (Int × Int)) × Unit) ⊕ ((Unit × (Int × Int)) × ((Int × (Unit × (Int × (Bool × ((Int × (Int × (Int × Int))) × (Int × (Int × (Int × (Unit × Bool))))))))) × (List (Int × ((Int × ByteArray) × (Int × List (Int × (Int × Int))))) × (List (Int × (Int × (Int × (Int × Int)))) × Unit)))))) := c6o.f Try.prog (T6o n) n (number, items) ()
noncomputable def f6o_10 (n m : Nat) (number : Int) (items : List (Int × ((Int × ByteArray) × (Int × List (Int × (Int × Int)))))) (last : Int) (x25 : List (Int × ((Int × ByteArray) × (Int × List (Int × (Int × Int)))))) (x26 : Int) (x27 : Int) : Option ((((Unit × (Int × Int)) × Unit) ⊕ ((Unit × (Int × Int)) × ((Int × (Unit × (Int × (Bool × ((Int × (Int × (Int × Int))) × (Int × (Int × (Int × (Unit × Bool))))))))) × (List (Int × ((Int × ByteArray) × (Int × List (Int × (Int × Int))))) × (List (Int × (Int × (Int × (Int × Int)))) × Unit)))))) := c6o.LL Try.prog (T6o n) m 10 (number, items, last, x25, x26, x27) ()
theorem f6o_10_zero (n : Nat) (number : Int) (items : List (Int × ((Int × ByteArray) × (Int × List (Int × (Int × Int)))))) (last : Int) (x25 : List (Int × ((Int × ByteArray) × (Int × List (Int × (Int × Int)))))) (x26 : Int) (x27 : Int) : f6o_10 n 0 number items last x25 x26 x27 = none := rfl
theorem f6o_10_eq (n m : Nat) (number : Int) (items : List (Int × ((Int × ByteArray) × (Int × List (Int × (Int × Int)))))) (last : Int) (x25 : List (Int × ((Int × ByteArray) × (Int × List (Int × (Int × Int)))))) (x26 : Int) (x27 : Int) : f6o_10 n (m + 1) number items last x25 x26 x27 =
  bif decide (x27 < x26) then
   bif decide ((0 : Int) ≤ x27 ∧ x27 < ↑x25.length) then
    bif decide ((x25.getD x27.toNat ((0 : Int), ((0 : Int), ByteArray.empty), (0 : Int), [])).fst < (1 : Int)) then
     some (Sum.inl (((), x27, (140 : Int)), ()))
    else
     bif decide ((x25.getD x27.toNat ((0 : Int), ((0 : Int), ByteArray.empty), (0 : Int), [])).fst ≤ last) then
      some (Sum.inl (((), x27, (140 : Int)), ()))
     else
      bif decide ((x25.getD x27.toNat ((0 : Int), ((0 : Int), ByteArray.empty), (0 : Int), [])).snd.snd.fst < (0 : Int)) then
       some (Sum.inl (((), x27, (140 : Int)), ()))
      else
       (f26 n (x25.getD x27.toNat ((0 : Int), ((0 : Int), ByteArray.empty), (0 : Int), [])).snd.fst).bind fun r1 =>
       bif r1 != (0 : Int) then
        some (Sum.inl (((), x27, r1), ()))
       else
        (f27 n (x25.getD x27.toNat ((0 : Int), ((0 : Int), ByteArray.empty), (0 : Int), [])).snd.snd.2).bind fun r2 =>
        bif r2.snd != (0 : Int) then
         some (Sum.inl (((), x27, r2.snd), ()))
        else
         f6o_10 n m number items ((x25.getD x27.toNat ((0 : Int), ((0 : Int), ByteArray.empty), (0 : Int), [])).fst) x25 x26 (Go.IntKind.i64.wrap (x27 + (1 : Int)))
   else
    none
  else
   (f28o n items).bind fun r3 =>
   some (Sum.inr ((((), (0 : Int), (0 : Int)), ((number, ((), ((0 : Int), (false, (((0 : Int), (0 : Int), (0 : Int), (0 : Int)), ((0 : Int), ((0 : Int), ((0 : Int), ((), false))))))))), r3.snd.fst, [], ())))) := by kernel_rfl
theorem f6o_eq (n : Nat) (number : Int) (items : List (Int × ((Int × ByteArray) × (Int × List (Int × (Int × Int)))))) : f6o n number items =
  bif decide (number < (1 : Int)) then
   some (Sum.inl (((), (0 : Int), (140 : Int)), ()))
  else
   bif ↑items.length == (0 : Int) then
    some (Sum.inl (((), (0 : Int), (140 : Int)), ()))
   else
    bif decide (↑items.length > (1024 : Int)) then
     some (Sum.inl (((), (0 : Int), (140 : Int)), ()))
    else
     f6o_10 n n number items (0 : Int) items ↑items.length (0 : Int) := by kernel_rfl
/- convoy/gate.New -/
noncomputable def c8o : OCfg := ⟨8, Try.f8, ⟨4, 2, [], []⟩, [⟨1, 2, [(0, (.ptr 1003 []))], [(1001, .map 3 3 (.int .i64) (.int .i64)), (1003, .box (.agg (.pair (.val (.arr 256 .bool)) (.pair (.val (.arr 256 .nilp)) (.mp 1001)))))]⟩], [], []⟩
noncomputable def T8o (_ : Nat) : Tab := ⟨[], []⟩
noncomputable def e8o (n : Nat) : OE := c8o.entry Try.prog (T8o n) n
theorem ok8o (n : Nat) : OOK Try.prog (e8o n) := c8o.sound .nil n Try.func8 (by kernel_rfl) (by kernel_rfl)
noncomputable def f8o (n : Nat) : Option ((Unit × (List (Int × Int) × ((List Bool × (List Unit × Unit)) × Unit)))) := c8o.f Try.prog (T8o n) n () ()
theorem f8o_eq (n : Nat) : f8o n =
  some (((), ([], (List.replicate (256 : Nat) false, (List.replicate (256 : Nat) (), ())), ()))) := by kernel_rfl
/- convoy/clock.New -/
noncomputable def c9o : OCfg := ⟨9, Try.f9, ⟨5, 3, [], []⟩, [⟨1, 2, [(0, (.ptr 1004 []))], [(1001, .map 3 2 (.int .i64) (.int .i64)), (1002, .map 2 59 (.int .i64) (.sl 3 (.int .i64))), (1004, .box (.agg (.pair (.val (.int .i64)) (.pair (.val (.int .i64)) (.pair (.mp 1001) (.pair (.rs 200001) (.mp 1002))))))), (200001, .row 2 (.int .i64))]⟩], [], []⟩
noncomputable def T9o (_ : Nat) : Tab := ⟨[], []⟩
noncomputable def e9o (n : Nat) : OE := c9o.entry Try.prog (T9o n) n
theorem ok9o (n : Nat) : OOK Try.prog (e9o n) := c9o.sound .nil n Try.func9 (by kernel_rfl) (by kernel_rfl)
noncomputable def f9o (n : Nat) : Option ((Unit × (List (Int × Int) × (List (Int × List Int) × ((Int × (Int × (Unit × (Unit × Unit)))) × (List Int × Unit)))))) := c9o.f Try.prog (T9o n) n () ()
theorem f9o_eq (n : Nat) : f9o n =
  some (((), ([], [], ((0 : Int), ((0 : Int), ((), ((), ())))), [], ()))) := by kernel_rfl
/- convoy/token.New -/
noncomputable def c10o : OCfg := ⟨10, Try.f10, ⟨3, 2, [], []⟩, [⟨1, 2, [(0, (.ptr 1002 []))], [(1002, .box (.agg (.rs 200001))), (200001, .row 134 (.agg (.pair (.int .i64) (.pair (.int .i64) (.int .i64)))))]⟩], [], []⟩
noncomputable def T10o (_ : Nat) : Tab := ⟨[], []⟩
noncomputable def e10o (n : Nat) : OE := c10o.entry Try.prog (T10o n) n
theorem ok10o (n : Nat) : OOK Try.prog (e10o n) := c10o.sound .nil n Try.func10 (by kernel_rfl) (by kernel_rfl)
noncomputable def f10o (n : Nat) : Option ((Unit × (Unit × (List (Int × (Int × Int)) × Unit)))) := c10o.f Try.prog (T10o n) n () ()
theorem f10o_eq (n : Nat) : f10o n =
  some (((), ((), [], ()))) := by kernel_rfl
/- (*convoy/token.Tokens).get -/
noncomputable def c58o : OCfg := ⟨58, Try.f58, ⟨27, 5, [(0, (.ptr 1 [])), (1, (.val (.int .i64)))], [(1, .box (.agg (.rs 100001))), (100001, .row 134 (.agg (.pair (.int .i64) (.pair (.int .i64) (.int .i64)))))]⟩, [⟨1, 2, [(0, .nilp)], [(1, .box (.agg (.rs 100001))), (100001, .row 134 (.agg (.pair (.int .i64) (.pair (.int .i64) (.int .i64)))))]⟩], [], []⟩
noncomputable def T58o (_ : Nat) : Tab := ⟨[], []⟩
noncomputable def e58o (n : Nat) : OE := c58o.entry Try.prog (T58o n) n
theorem ok58o (n : Nat) : OOK Try.prog (e58o n) := c58o.sound .nil n Try.func58 (by kernel_rfl) (by kernel_rfl)
noncomputable def f58o (n : Nat) (x1 : Int) (l100001 : List (Int × (Int × Int))) : Option ((Unit × (Unit × (List (Int × (Int × Int)) × Unit)))) := c58o.f Try.prog (T58o n) n ((), x1) ((), l100001, ())
theorem f58o_eq (n : Nat) (x1 : Int) (l100001 : List (Int × (Int × Int))) : f58o n x1 l100001 =
  bif decide (x1 < (1 : Int)) then
   some (((), ((), l100001, ())))
  else
   bif decide (x1 > ↑l100001.length) then
    some (((), ((), l100001, ())))
   else
    bif decide ((0 : Int) ≤ Go.IntKind.i64.wrap (x1 - (1 : Int)) ∧ Go.IntKind.i64.wrap (x1 - (1 : Int)) < ↑l100001.length) then
     none /- no such end -/
    else
     none := by kernel_rfl
/- (*convoy/token.Tokens).Why -/
noncomputable def c46o : OCfg := ⟨46, Try.f46, ⟨15, 4, [(0, (.ptr 1 [])), (1, (.val (.int .i64)))], [(1, .box (.agg (.rs 100001))), (100001, .row 134 (.agg (.pair (.int .i64) (.pair (.int .i64) (.int .i64)))))]⟩, [⟨1, 2, [(0, (.val (.int .i64)))], [(1, .box (.agg (.rs 100001))), (100001, .row 134 (.agg (.pair (.int .i64) (.pair (.int .i64) (.int .i64)))))]⟩], [], []⟩
noncomputable def T46o (n : Nat) : Tab := ⟨[], [e58o n]⟩
noncomputable def e46o (n : Nat) : OE := c46o.entry Try.prog (T46o n) n
theorem ok46o (n : Nat) : OOK Try.prog (e46o n) := c46o.sound (.ocons (ok58o n) .nil) n Try.func46 (by kernel_rfl) (by kernel_rfl)
noncomputable def f46o (n : Nat) (x1 : Int) (l100001 : List (Int × (Int × Int))) : Option ((Int × (Unit × (List (Int × (Int × Int)) × Unit)))) := c46o.f Try.prog (T46o n) n ((), x1) ((), l100001, ())
theorem f46o_eq (n : Nat) (x1 : Int) (l100001 : List (Int × (Int × Int))) : f46o n x1 l100001 =
  (f58o n x1 l100001).bind fun r1 =>
  some (((0 : Int), ((), r1.snd.snd.fst, ()))) := by kernel_rfl
/- (*convoy/token.Tokens).Is -/
noncomputable def c29o : OCfg := ⟨29, Try.f29, ⟨9, 4, [(0, (.ptr 1 [])), (1, (.val (.int .i64)))], [(1, .box (.agg (.rs 100001))), (100001, .row 134 (.agg (.pair (.int .i64) (.pair (.int .i64) (.int .i64)))))]⟩, [⟨1, 2, [(0, (.val .bool))], [(1, .box (.agg (.rs 100001))), (100001, .row 134 (.agg (.pair (.int .i64) (.pair (.int .i64) (.int .i64)))))]⟩], [], []⟩
noncomputable def T29o (n : Nat) : Tab := ⟨[], [e46o n]⟩
noncomputable def e29o (n : Nat) : OE := c29o.entry Try.prog (T29o n) n
theorem ok29o (n : Nat) : OOK Try.prog (e29o n) := c29o.sound (.ocons (ok46o n) .nil) n Try.func29 (by kernel_rfl) (by kernel_rfl)
noncomputable def f29o (n : Nat) (x1 : Int) (l100001 : List (Int × (Int × Int))) : Option ((Bool × (Unit × (List (Int × (Int × Int)) × Unit)))) := c29o.f Try.prog (T29o n) n ((), x1) ((), l100001, ())
theorem f29o_eq (n : Nat) (x1 : Int) (l100001 : List (Int × (Int × Int))) : f29o n x1 l100001 =
  (f46o n x1 l100001).bind fun r1 =>
  some ((r1.fst != (0 : Int), ((), r1.snd.snd.fst, ()))) := by kernel_rfl
/- (*convoy/load.Load).ended -/
noncomputable def c30o : OCfg := ⟨30, Try.f30, ⟨101, 7, [(0, (.ptr 1 [])), (1, (.val (.agg (.pair (.int .i64) (.agg (.pair (.int .i64) (.pair (.int .i64) (.int .i64)))))))), (2, (.val (.int .i64)))], [(1, .box (.agg (.pair (.val (.int .i64)) (.pair (.rs 100001) (.pair (.val (.int .i64)) (.pair (.val .bool) (.pair (.val (.agg (.pair (.int .i64) (.pair (.int .i64) (.pair (.int .i64) (.int .i64)))))) (.pair (.val (.int .i64)) (.pair (.val (.int .i64)) (.pair (.val (.int .i64)) (.pair (.rs 100002) (.val .bool)))))))))))), (100001, .row 33 (.agg (.pair (.int .i64) (.pair (.agg (.pair (.int .u16) .str)) (.pair (.int .i64) (.sl 35 (.agg (.pair (.int .i64) (.pair (.int .i64) (.int .i64)))))))))), (100002, .row 53 (.agg (.pair (.int .i64) (.agg (.pair (.int .i64) (.agg (.pair (.int .i64) (.pair (.int .i64) (.int .i64)))))))))]⟩, [⟨1, 2, [(0, (.val (.agg (.pair (.int .i64) (.pair (.int .i64) (.pair (.int .i64) (.int .i64)))))))], [(1, .box (.agg (.pair (.val (.int .i64)) (.pair (.rs 100001) (.pair (.val (.int .i64)) (.pair (.val .bool) (.pair (.val (.agg (.pair (.int .i64) (.pair (.int .i64) (.pair (.int .i64) (.int .i64)))))) (.pair (.val (.int .i64)) (.pair (.val (.int .i64)) (.pair (.val (.int .i64)) (.pair (.rs 100002) (.val .bool)))))))))))), (100001, .row 33 (.agg (.pair (.int .i64) (.pair (.agg (.pair (.int .u16) .str)) (.pair (.int .i64) (.sl 35 (.agg (.pair (.int .i64) (.pair (.int .i64) (.int .i64)))))))))), (100002, .row 53 (.agg (.pair (.int .i64) (.agg (.pair (.int .i64) (.agg (.pair (.int .i64) (.pair (.int .i64) (.int .i64)))))))))]⟩], [], [(16, ⟨101, 7, [(0, (.ptr 1 [])), (2, (.val (.int .i64))), (4, (.ptr 1004 [])), (6, (.ptr 1006 [])), (7, (.val (.int .i64))), (57, (.rs 100001)), (58, (.val (.int .i64))), (59, (.val (.int .i64)))], [(1, .box (.agg (.pair (.val (.int .i64)) (.pair (.rs 100001) (.pair (.val (.int .i64)) (.pair (.val .bool) (.pair (.val (.agg (.pair (.int .i64) (.pair (.int .i64) (.pair (.int .i64) (.int .i64)))))) (.pair (.val (.int .i64)) (.pair (.val (.int .i64)) (.pair (.val (.int .i64)) (.pair (.rs 300001) (.val .bool)))))))))))), (1004, .box (.val (.agg (.pair (.int .i64) (.agg (.pair (.int .i64) (.pair (.int .i64) (.int .i64)))))))), (1006, .box (.val (.agg (.pair (.int .i64) (.pair (.int .i64) (.pair (.int .i64) (.int .i64))))))), (100001, .row 33 (.agg (.pair (.int .i64) (.pair (.agg (.pair (.int .u16) .str)) (.pair (.int .i64) (.sl 35 (.agg (.pair (.int .i64) (.pair (.int .i64) (.int .i64)))))))))), (300001, .row 53 (.agg (.pair (.int .i64) (.agg (.pair (.int .i64) (.agg (.pair (.int .i64) (.pair (.int .i64) (.int .i64)))))))))]⟩)]⟩
noncomputable def T30o (_ : Nat) : Tab := ⟨[], []⟩
noncomputable def e30o (n : Nat) : OE := c30o.entry Try.prog (T30o n) n
theorem ok30o (n : Nat) : OOK Try.prog (e30o n) := c30o.sound .nil n Try.func30 (by kernel_rfl) (by kernel_rfl)
noncomputable def f30o (n : Nat) (o : (Int × (Int × (Int × Int)))) (what : Int) (b1a : Int) (b1bba : Int) (b1bbba : Bool) (b1bbbba : (Int × (Int × (Int × Int)))) (b1bbbbba : Int) (b1bbbbbba : Int) (b1bbbbbbba : Int) (b1bbbbbbbbb : Bool) (l100001 : List (Int × ((Int × ByteArray) × (Int × List (Int × (Int × Int)))))) (l100002 : List (Int × (Int × (Int × (Int × Int))))) : Option (((Int × (Int × (Int × Int))) × ((Int × (Unit × (Int × (Bool × ((Int × (Int × (Int × Int))) × (Int × (Int × (Int × (Unit × Bool))))))))) × (List (Int × ((Int × ByteArray) × (Int × List (Int × (Int × Int))))) × (List (Int × (Int × (Int × (Int × Int)))) × Unit))))) := c30o.f Try.prog (T30o n) n ((), o, what) ((b1a, ((), (b1bba, (b1bbba, (b1bbbba, (b1bbbbba, (b1bbbbbba, (b1bbbbbbba, ((), b1bbbbbbbbb))))))))), l100001, l100002, ())
noncomputable def f30o_16 (n m : Nat) (what : Int) (run : Int) (x58 : Int) (x59 : Int) (b1a : Int) (b1bba : Int) (b1bbba : Bool) (b1bbbba : (Int × (Int × (Int × Int)))) (b1bbbbba : Int) (b1bbbbbba : Int) (b1bbbbbbba : Int) (b1bbbbbbbbb : Bool) (b1004 : (Int × (Int × (Int × Int)))) (b1006 : (Int × (Int × (Int × Int)))) (l100001 : List (Int × ((Int × ByteArray) × (Int × List (Int × (Int × Int)))))) (l300001 : List (Int × (Int × (Int × (Int × Int))))) : Option (((Int × (Int × (Int × Int))) × ((Int × (Unit × (Int × (Bool × ((Int × (Int × (Int × Int))) × (Int × (Int × (Int × (Unit × Bool))))))))) × (List (Int × ((Int × ByteArray) × (Int × List (Int × (Int × Int))))) × (List (Int × (Int × (Int × (Int × Int)))) × Unit))))) := c30o.LL Try.prog (T30o n) m 16 ((), what, (), (), run, (), x58, x59) ((b1a, ((), (b1bba, (b1bbba, (b1bbbba, (b1bbbbba, (b1bbbbbba, (b1bbbbbbba, ((), b1bbbbbbbbb))))))))), b1004, b1006, l100001, l300001, ())
theorem f30o_16_zero (n : Nat) (what : Int) (run : Int) (x58 : Int) (x59 : Int) (b1a : Int) (b1bba : Int) (b1bbba : Bool) (b1bbbba : (Int × (Int × (Int × Int)))) (b1bbbbba : Int) (b1bbbbbba : Int) (b1bbbbbbba : Int) (b1bbbbbbbbb : Bool) (b1004 : (Int × (Int × (Int × Int)))) (b1006 : (Int × (Int × (Int × Int)))) (l100001 : List (Int × ((Int × ByteArray) × (Int × List (Int × (Int × Int)))))) (l300001 : List (Int × (Int × (Int × (Int × Int))))) : f30o_16 n 0 what run x58 x59 b1a b1bba b1bbba b1bbbba b1bbbbba b1bbbbbba b1bbbbbbba b1bbbbbbbbb b1004 b1006 l100001 l300001 = none := rfl
theorem f30o_16_eq (n m : Nat) (what : Int) (run : Int) (x58 : Int) (x59 : Int) (b1a : Int) (b1bba : Int) (b1bbba : Bool) (b1bbbba : (Int × (Int × (Int × Int)))) (b1bbbbba : Int) (b1bbbbbba : Int) (b1bbbbbbba : Int) (b1bbbbbbbbb : Bool) (b1004 : (Int × (Int × (Int × Int)))) (b1006 : (Int × (Int × (Int × Int)))) (l100001 : List (Int × ((Int × ByteArray) × (Int × List (Int × (Int × Int)))))) (l300001 : List (Int × (Int × (Int × (Int × Int))))) : f30o_16 n (m + 1) what run x58 x59 b1a b1bba b1bbba b1bbbba b1bbbbba b1bbbbbba b1bbbbbbba b1bbbbbbbbb b1004 b1006 l100001 l300001 =
  bif decide (x59 < x58) then
   bif decide ((0 : Int) ≤ x59 ∧ x59 < ↑l100001.length) then
    bif decide ((l300001.length + [((l100001.getD x59.toNat ((0 : Int), ((0 : Int), ByteArray.empty), (0 : Int), [])).fst, b1004)].length) * (40 : Nat) ≤ Go.Rf.maxBytes) then
     f30o_16 n m what run x58 (Go.IntKind.i64.wrap (x59 + (1 : Int))) b1a b1bba b1bbba b1bbbba b1bbbbba b1bbbbbba b1bbbbbbba b1bbbbbbbbb b1004 b1006 l100001 (l300001 ++ [((l100001.getD x59.toNat ((0 : Int), ((0 : Int), ByteArray.empty), (0 : Int), [])).fst, b1004)])
    else
     none
   else
    none
  else
   bif (↑l100001.length : Int) == ↑l100001.length then
    some ((((6 : Int), run, (0 : Int), (0 : Int)), ((b1a, ((), (↑l100001.length, (b1bbba, (b1bbbba, (b1bbbbba, (b1bbbbbba, (b1bbbbbbba, ((), true))))))))), l100001, l300001, ())))
   else
    some (((what, run, (0 : Int), (0 : Int)), ((b1a, ((), (↑l100001.length, (b1bbba, (b1bbbba, (b1bbbbba, (b1bbbbbba, (b1bbbbbbba, ((), b1bbbbbbbbb))))))))), l100001, l300001, ()))) := by kernel_rfl
theorem f30o_eq (n : Nat) (o : (Int × (Int × (Int × Int)))) (what : Int) (b1a : Int) (b1bba : Int) (b1bbba : Bool) (b1bbbba : (Int × (Int × (Int × Int)))) (b1bbbbba : Int) (b1bbbbbba : Int) (b1bbbbbbba : Int) (b1bbbbbbbbb : Bool) (l100001 : List (Int × ((Int × ByteArray) × (Int × List (Int × (Int × Int)))))) (l100002 : List (Int × (Int × (Int × (Int × Int))))) : f30o n o what b1a b1bba b1bbba b1bbbba b1bbbbba b1bbbbbba b1bbbbbbba b1bbbbbbbbb l100001 l100002 =
  bif decide ((0 : Int) ≤ b1bba ∧ b1bba < ↑l100001.length) then
   bif decide ((l100002.length + [((l100001.getD b1bba.toNat ((0 : Int), ((0 : Int), ByteArray.empty), (0 : Int), [])).fst, o)].length) * (40 : Nat) ≤ Go.Rf.maxBytes) then
    bif o.snd.fst == (2 : Int) then
     f30o_16 n n what ((l100001.getD b1bba.toNat ((0 : Int), ((0 : Int), ByteArray.empty), (0 : Int), [])).fst) ↑l100001.length (0 : Int) b1a (Go.IntKind.i64.wrap (b1bba + (1 : Int))) false (((0 : Int), (0 : Int), (0 : Int), (0 : Int))) b1bbbbba b1bbbbbba b1bbbbbbba b1bbbbbbbbb o (((0 : Int), (0 : Int), (0 : Int), (0 : Int))) l100001 []
    else
     bif Go.IntKind.i64.wrap (b1bba + (1 : Int)) == ↑l100001.length then
      some ((((6 : Int), (l100001.getD b1bba.toNat ((0 : Int), ((0 : Int), ByteArray.empty), (0 : Int), [])).fst, (0 : Int), (0 : Int)), ((b1a, ((), (Go.IntKind.i64.wrap (b1bba + (1 : Int)), (false, (((0 : Int), (0 : Int), (0 : Int), (0 : Int)), (b1bbbbba, (b1bbbbbba, (b1bbbbbbba, ((), true))))))))), l100001, l100002 ++ [((l100001.getD b1bba.toNat ((0 : Int), ((0 : Int), ByteArray.empty), (0 : Int), [])).fst, o)], ())))
     else
      some (((what, (l100001.getD b1bba.toNat ((0 : Int), ((0 : Int), ByteArray.empty), (0 : Int), [])).fst, (0 : Int), (0 : Int)), ((b1a, ((), (Go.IntKind.i64.wrap (b1bba + (1 : Int)), (false, (((0 : Int), (0 : Int), (0 : Int), (0 : Int)), (b1bbbbba, (b1bbbbbba, (b1bbbbbbba, ((), b1bbbbbbbbb))))))))), l100001, l100002 ++ [((l100001.getD b1bba.toNat ((0 : Int), ((0 : Int), ByteArray.empty), (0 : Int), [])).fst, o)], ())))
   else
    none
  else
   none := by kernel_rfl
/- (*convoy/load.Load).Number -/
noncomputable def c18o : OCfg := ⟨18, Try.f18, ⟨9, 4, [(0, (.ptr 1 []))], [(1, .box (.agg (.pair (.val (.int .i64)) (.pair (.rs 100001) (.pair (.val (.int .i64)) (.pair (.val .bool) (.pair (.val (.agg (.pair (.int .i64) (.pair (.int .i64) (.pair (.int .i64) (.int .i64)))))) (.pair (.val (.int .i64)) (.pair (.val (.int .i64)) (.pair (.val (.int .i64)) (.pair (.rs 100002) (.val .bool)))))))))))), (100001, .row 33 (.agg (.pair (.int .i64) (.pair (.agg (.pair (.int .u16) .str)) (.pair (.int .i64) (.sl 35 (.agg (.pair (.int .i64) (.pair (.int .i64) (.int .i64)))))))))), (100002, .row 53 (.agg (.pair (.int .i64) (.agg (.pair (.int .i64) (.agg (.pair (.int .i64) (.pair (.int .i64) (.int .i64)))))))))]⟩, [⟨1, 2, [(0, (.val (.int .i64)))], [(1, .box (.agg (.pair (.val (.int .i64)) (.pair (.rs 100001) (.pair (.val (.int .i64)) (.pair (.val .bool) (.pair (.val (.agg (.pair (.int .i64) (.pair (.int .i64) (.pair (.int .i64) (.int .i64)))))) (.pair (.val (.int .i64)) (.pair (.val (.int .i64)) (.pair (.val (.int .i64)) (.pair (.rs 100002) (.val .bool)))))))))))), (100001, .row 33 (.agg (.pair (.int .i64) (.pair (.agg (.pair (.int .u16) .str)) (.pair (.int .i64) (.sl 35 (.agg (.pair (.int .i64) (.pair (.int .i64) (.int .i64)))))))))), (100002, .row 53 (.agg (.pair (.int .i64) (.agg (.pair (.int .i64) (.agg (.pair (.int .i64) (.pair (.int .i64) (.int .i64)))))))))]⟩], [], []⟩
noncomputable def T18o (_ : Nat) : Tab := ⟨[], []⟩
noncomputable def e18o (n : Nat) : OE := c18o.entry Try.prog (T18o n) n
theorem ok18o (n : Nat) : OOK Try.prog (e18o n) := c18o.sound .nil n Try.func18 (by kernel_rfl) (by kernel_rfl)
noncomputable def f18o (n : Nat) (b1a : Int) (b1bba : Int) (b1bbba : Bool) (b1bbbba : (Int × (Int × (Int × Int)))) (b1bbbbba : Int) (b1bbbbbba : Int) (b1bbbbbbba : Int) (b1bbbbbbbbb : Bool) (l100001 : List (Int × ((Int × ByteArray) × (Int × List (Int × (Int × Int)))))) (l100002 : List (Int × (Int × (Int × (Int × Int))))) : Option ((Int × ((Int × (Unit × (Int × (Bool × ((Int × (Int × (Int × Int))) × (Int × (Int × (Int × (Unit × Bool))))))))) × (List (Int × ((Int × ByteArray) × (Int × List (Int × (Int × Int))))) × (List (Int × (Int × (Int × (Int × Int)))) × Unit))))) := c18o.f Try.prog (T18o n) n () ((b1a, ((), (b1bba, (b1bbba, (b1bbbba, (b1bbbbba, (b1bbbbbba, (b1bbbbbbba, ((), b1bbbbbbbbb))))))))), l100001, l100002, ())
theorem f18o_eq (n : Nat) (b1a : Int) (b1bba : Int) (b1bbba : Bool) (b1bbbba : (Int × (Int × (Int × Int)))) (b1bbbbba : Int) (b1bbbbbba : Int) (b1bbbbbbba : Int) (b1bbbbbbbbb : Bool) (l100001 : List (Int × ((Int × ByteArray) × (Int × List (Int × (Int × Int)))))) (l100002 : List (Int × (Int × (Int × (Int × Int))))) : f18o n b1a b1bba b1bbba b1bbbba b1bbbbba b1bbbbbba b1bbbbbbba b1bbbbbbbbb l100001 l100002 =
  some ((b1a, ((b1a, ((), (b1bba, (b1bbba, (b1bbbba, (b1bbbbba, (b1bbbbbba, (b1bbbbbbba, ((), b1bbbbbbbbb))))))))), l100001, l100002, ()))) := by kernel_rfl
/- (*convoy/load.Load).Over -/
noncomputable def c11o : OCfg := ⟨11, Try.f11, ⟨11, 4, [(0, (.ptr 1 []))], [(1, .box (.agg (.pair (.val (.int .i64)) (.pair (.rs 100001) (.pair (.val (.int .i64)) (.pair (.val .bool) (.pair (.val (.agg (.pair (.int .i64) (.pair (.int .i64) (.pair (.int .i64) (.int .i64)))))) (.pair (.val (.int .i64)) (.pair (.val (.int .i64)) (.pair (.val (.int .i64)) (.pair (.rs 100002) (.val .bool)))))))))))), (100001, .row 33 (.agg (.pair (.int .i64) (.pair (.agg (.pair (.int .u16) .str)) (.pair (.int .i64) (.sl 35 (.agg (.pair (.int .i64) (.pair (.int .i64) (.int .i64)))))))))), (100002, .row 53 (.agg (.pair (.int .i64) (.agg (.pair (.int .i64) (.agg (.pair (.int .i64) (.pair (.int .i64) (.int .i64)))))))))]⟩, [⟨1, 2, [(0, (.val .bool))], [(1, .box (.agg (.pair (.val (.int .i64)) (.pair (.rs 100001) (.pair (.val (.int .i64)) (.pair (.val .bool) (.pair (.val (.agg (.pair (.int .i64) (.pair (.int .i64) (.pair (.int .i64) (.int .i64)))))) (.pair (.val (.int .i64)) (.pair (.val (.int .i64)) (.pair (.val (.int .i64)) (.pair (.rs 100002) (.val .bool)))))))))))), (100001, .row 33 (.agg (.pair (.int .i64) (.pair (.agg (.pair (.int .u16) .str)) (.pair (.int .i64) (.sl 35 (.agg (.pair (.int .i64) (.pair (.int .i64) (.int .i64)))))))))), (100002, .row 53 (.agg (.pair (.int .i64) (.agg (.pair (.int .i64) (.agg (.pair (.int .i64) (.pair (.int .i64) (.int .i64)))))))))]⟩], [], []⟩
noncomputable def T11o (_ : Nat) : Tab := ⟨[], []⟩
noncomputable def e11o (n : Nat) : OE := c11o.entry Try.prog (T11o n) n
theorem ok11o (n : Nat) : OOK Try.prog (e11o n) := c11o.sound .nil n Try.func11 (by kernel_rfl) (by kernel_rfl)
noncomputable def f11o (n : Nat) (b1a : Int) (b1bba : Int) (b1bbba : Bool) (b1bbbba : (Int × (Int × (Int × Int)))) (b1bbbbba : Int) (b1bbbbbba : Int) (b1bbbbbbba : Int) (b1bbbbbbbbb : Bool) (l100001 : List (Int × ((Int × ByteArray) × (Int × List (Int × (Int × Int)))))) (l100002 : List (Int × (Int × (Int × (Int × Int))))) : Option ((Bool × ((Int × (Unit × (Int × (Bool × ((Int × (Int × (Int × Int))) × (Int × (Int × (Int × (Unit × Bool))))))))) × (List (Int × ((Int × ByteArray) × (Int × List (Int × (Int × Int))))) × (List (Int × (Int × (Int × (Int × Int)))) × Unit))))) := c11o.f Try.prog (T11o n) n () ((b1a, ((), (b1bba, (b1bbba, (b1bbbba, (b1bbbbba, (b1bbbbbba, (b1bbbbbbba, ((), b1bbbbbbbbb))))))))), l100001, l100002, ())
theorem f11o_eq (n : Nat) (b1a : Int) (b1bba : Int) (b1bbba : Bool) (b1bbbba : (Int × (Int × (Int × Int)))) (b1bbbbba : Int) (b1bbbbbba : Int) (b1bbbbbbba : Int) (b1bbbbbbbbb : Bool) (l100001 : List (Int × ((Int × ByteArray) × (Int × List (Int × (Int × Int)))))) (l100002 : List (Int × (Int × (Int × (Int × Int))))) : f11o n b1a b1bba b1bbba b1bbbba b1bbbbba b1bbbbbba b1bbbbbbba b1bbbbbbbbb l100001 l100002 =
  some ((b1bbbbbbbbb, ((b1a, ((), (b1bba, (b1bbba, (b1bbbba, (b1bbbbba, (b1bbbbbba, (b1bbbbbbba, ((), b1bbbbbbbbb))))))))), l100001, l100002, ()))) := by kernel_rfl
/- (*convoy/load.Load).Over -/
noncomputable def c11z : OCfg := ⟨11, Try.f11, ⟨11, 4, [(0, .nilp)], []⟩, [⟨1, 2, [(0, (.val .bool))], []⟩], [], []⟩
noncomputable def T11z (_ : Nat) : Tab := ⟨[], []⟩
noncomputable def e11z (n : Nat) : OE := c11z.entry Try.prog (T11z n) n
theorem ok11z (n : Nat) : OOK Try.prog (e11z n) := c11z.sound .nil n Try.func11 (by kernel_rfl) (by kernel_rfl)
noncomputable def f11z (n : Nat) : Option ((Bool × Unit)) := c11z.f Try.prog (T11z n) n () ()
theorem f11z_eq (n : Nat) : f11z n =
  some ((true, ())) := by kernel_rfl
/- (*convoy/load.Load).Results -/
noncomputable def c13o : OCfg := ⟨13, Try.f13, ⟨17, 5, [(0, (.ptr 1 []))], [(1, .box (.agg (.pair (.val (.int .i64)) (.pair (.rs 100001) (.pair (.val (.int .i64)) (.pair (.val .bool) (.pair (.val (.agg (.pair (.int .i64) (.pair (.int .i64) (.pair (.int .i64) (.int .i64)))))) (.pair (.val (.int .i64)) (.pair (.val (.int .i64)) (.pair (.val (.int .i64)) (.pair (.rs 100002) (.val .bool)))))))))))), (100001, .row 33 (.agg (.pair (.int .i64) (.pair (.agg (.pair (.int .u16) .str)) (.pair (.int .i64) (.sl 35 (.agg (.pair (.int .i64) (.pair (.int .i64) (.int .i64)))))))))), (100002, .row 53 (.agg (.pair (.int .i64) (.agg (.pair (.int .i64) (.agg (.pair (.int .i64) (.pair (.int .i64) (.int .i64)))))))))]⟩, [⟨1, 2, [(0, (.rs 1002))], [(1, .box (.agg (.pair (.val (.int .i64)) (.pair (.rs 100001) (.pair (.val (.int .i64)) (.pair (.val .bool) (.pair (.val (.agg (.pair (.int .i64) (.pair (.int .i64) (.pair (.int .i64) (.int .i64)))))) (.pair (.val (.int .i64)) (.pair (.val (.int .i64)) (.pair (.val (.int .i64)) (.pair (.rs 100002) (.val .bool)))))))))))), (1002, .row 53 (.agg (.pair (.int .i64) (.agg (.pair (.int .i64) (.agg (.pair (.int .i64) (.pair (.int .i64) (.int .i64))))))))), (100001, .row 33 (.agg (.pair (.int .i64) (.pair (.agg (.pair (.int .u16) .str)) (.pair (.int .i64) (.sl 35 (.agg (.pair (.int .i64) (.pair (.int .i64) (.int .i64)))))))))), (100002, .row 53 (.agg (.pair (.int .i64) (.agg (.pair (.int .i64) (.agg (.pair (.int .i64) (.pair (.int .i64) (.int .i64)))))))))]⟩], [], []⟩
noncomputable def T13o (n : Nat) : Tab := ⟨[], [e33o n]⟩
noncomputable def e13o (n : Nat) : OE := c13o.entry Try.prog (T13o n) n
theorem ok13o (n : Nat) : OOK Try.prog (e13o n) := c13o.sound (.ocons (ok33o n) .nil) n Try.func13 (by kernel_rfl) (by kernel_rfl)
noncomputable def f13o (n : Nat) (b1a : Int) (b1bba : Int) (b1bbba : Bool) (b1bbbba : (Int × (Int × (Int × Int)))) (b1bbbbba : Int) (b1bbbbbba : Int) (b1bbbbbbba : Int) (b1bbbbbbbbb : Bool) (l100001 : List (Int × ((Int × ByteArray) × (Int × List (Int × (Int × Int)))))) (l100002 : List (Int × (Int × (Int × (Int × Int))))) : Option ((Unit × ((Int × (Unit × (Int × (Bool × ((Int × (Int × (Int × Int))) × (Int × (Int × (Int × (Unit × Bool))))))))) × (List (Int × (Int × (Int × (Int × Int)))) × (List (Int × ((Int × ByteArray) × (Int × List (Int × (Int × Int))))) × (List (Int × (Int × (Int × (Int × Int)))) × Unit)))))) := c13o.f Try.prog (T13o n) n () ((b1a, ((), (b1bba, (b1bbba, (b1bbbba, (b1bbbbba, (b1bbbbbba, (b1bbbbbbba, ((), b1bbbbbbbbb))))))))), l100001, l100002, ())
theorem f13o_eq (n : Nat) (b1a : Int) (b1bba : Int) (b1bbba : Bool) (b1bbbba : (Int × (Int × (Int × Int)))) (b1bbbbba : Int) (b1bbbbbba : Int) (b1bbbbbbba : Int) (b1bbbbbbbbb : Bool) (l100001 : List (Int × ((Int × ByteArray) × (Int × List (Int × (Int × Int)))))) (l100002 : List (Int × (Int × (Int × (Int × Int))))) : f13o n b1a b1bba b1bbba b1bbbba b1bbbbba b1bbbbbba b1bbbbbbba b1bbbbbbbbb l100001 l100002 =
  bif !b1bbbbbbbbb then
   some (((), ((b1a, ((), (b1bba, (b1bbba, (b1bbbba, (b1bbbbba, (b1bbbbbba, (b1bbbbbbba, ((), b1bbbbbbbbb))))))))), [], l100001, l100002, ())))
  else
   (f33o n l100002).bind fun r1 =>
   some (((), ((b1a, ((), (b1bba, (b1bbba, (b1bbbba, (b1bbbbba, (b1bbbbbba, (b1bbbbbbba, ((), b1bbbbbbbbb))))))))), r1.snd.fst, l100001, l100002, ()))) := by kernel_rfl
end Go.Proofs.Ytbmdklndjlmogaa
