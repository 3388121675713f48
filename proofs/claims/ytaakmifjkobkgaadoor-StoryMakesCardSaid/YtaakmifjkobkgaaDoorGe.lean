/- What functions compute: printed, and checked by the kernel. -/
import Derived.Test.YtaakmifjkobkgaaDoorGd
namespace Go.Proofs.YtaakmifjkobkgaaDoor
open Go.Rf
/- convoy/convoyref29.in -/
noncomputable def c32 : Cfg := ⟨32, Tryd.f32, [(.int .i64)], [.bool], 4, [], []⟩
noncomputable def T32 (_ : Nat) : Tab := ⟨[], []⟩
noncomputable def e32 (n : Nat) : Entry := c32.entry Tryd.prog (T32 n) n
theorem ok32 {W0 : World} (n : Nat) : FnOK Tryd.prog W0 (e32 n) := c32.sound .nil n Tryd.func32 (by kernel_rfl) (by kernel_rfl)
noncomputable def f32 (n : Nat) (a0 : Int) : Option (Bool) := c32.f Tryd.prog (T32 n) n a0
theorem f32_eq (n : Nat) (a0 : Int) : f32 n a0 =
  bif decide (a0 ≥ (1 : Int)) then
   some (decide (a0 ≤ (64 : Int)))
  else
   some false := by kernel_rfl
/- convoy/convoyref29.May -/
noncomputable def c18 : Cfg := ⟨18, Tryd.f18, [(.agg (.pair (.int .i64) (.pair (.int .i64) (.pair (.int .i64) (.pair (.int .i64) (.pair (.int .i64) (.int .u64)))))))], [.bool], 6, [], []⟩
noncomputable def T18 (n : Nat) : Tab := ⟨[e32 n], []⟩
noncomputable def e18 (n : Nat) : Entry := c18.entry Tryd.prog (T18 n) n
theorem ok18 {W0 : World} (n : Nat) : FnOK Tryd.prog W0 (e18 n) := c18.sound (.cons (ok32 n) .nil) n Tryd.func18 (by kernel_rfl) (by kernel_rfl)
noncomputable def f18 (n : Nat) (t : (Int × (Int × (Int × (Int × (Int × Int)))))) : Option (Bool) := c18.f Tryd.prog (T18 n) n t
theorem f18_eq (n : Nat) (t : (Int × (Int × (Int × (Int × (Int × Int)))))) : f18 n t =
  bif decide (t.fst ≥ (1 : Int)) then
   bif decide (t.fst ≤ (6 : Int)) then
    (f32 n t.snd.fst).bind fun r1 =>
    bif r1 then
     (f32 n t.snd.snd.fst).bind fun r2 =>
     bif r2 then
      (f32 n t.snd.snd.snd.fst).bind fun r3 =>
      bif r3 then
       bif decide (t.snd.snd.snd.snd.fst ≥ (0 : Int)) then
        some (decide (t.snd.snd.snd.snd.fst ≤ (4611686018427387904 : Int)))
       else
        some false
      else
       some false
     else
      some false
    else
     some false
   else
    some false
  else
   some false := by kernel_rfl
/- slices.Clone[[]int,int] -/
noncomputable def c56o : OCfg := ⟨56, Tryd.f56, ⟨8, 3, [(0, (.val (.sl 3 (.int .i64))))], []⟩, [⟨1, 2, [(0, (.rs 1002))], [(1002, .row 3 (.int .i64))]⟩], [], []⟩
noncomputable def T56o (_ : Nat) : Tab := ⟨[], []⟩
noncomputable def e56o (n : Nat) : OE := c56o.entry Tryd.prog (T56o n) n
theorem ok56o {W0 : World} (n : Nat) : OOK Tryd.prog W0 (e56o n) := c56o.sound .nil n Tryd.func56 (by kernel_rfl) (by kernel_rfl)
noncomputable def f56o (n : Nat) (s : List Int) : Option ((Unit × (List Int × Unit))) := c56o.f Tryd.prog (T56o n) n s ()
theorem f56o_eq (n : Nat) (s : List Int) : f56o n s =
  bif s.isEmpty then
   Go.Rf.both (some (((), ([], ()))))
    (bif decide (((0 : Nat) + s.length) * (8 : Nat) ≤ Go.Rf.maxBytes) then
     some (((), ([] ++ s, ())))
    else
     none)
  else
   bif decide (((0 : Nat) + s.length) * (8 : Nat) ≤ Go.Rf.maxBytes) then
    some (((), ([] ++ s, ())))
   else
    none := by kernel_rfl
/- convoy/ready.New -/
noncomputable def c39o : OCfg := ⟨39, Tryd.f39, ⟨26, 5, [(0, (.val (.int .i64))), (1, (.val (.int .u64))), (2, (.val (.sl 3 (.int .i64))))], []⟩, [⟨2, 2, [(0, .nilp), (1, (.val (.int .i64)))], []⟩, ⟨2, 2, [(0, (.ptr 1025 [])), (1, (.val (.int .i64)))], [(1025, .box (.agg (.pair (.val (.int .i64)) (.pair (.val (.int .u64)) (.pair (.rs 2002) (.pair (.rs 200001) (.ptr 3007 []))))))), (2002, .row 3 (.int .i64)), (3004, .map 3 3 (.int .i64) (.int .i64)), (3005, .map 3 3 (.int .i64) (.int .i64)), (3007, .box (.agg (.pair (.mp 3004) (.pair (.mp 3005) (.val (.pair (.int .i64) (.int .i64))))))), (200001, .row 3 (.int .i64))]⟩], [], []⟩
noncomputable def T39o (n : Nat) : Tab := ⟨[], [e56o n, e57o n]⟩
noncomputable def e39o (n : Nat) : OE := c39o.entry Tryd.prog (T39o n) n
theorem ok39o {W0 : World} (n : Nat) : OOK Tryd.prog W0 (e39o n) := c39o.sound (.ocons (ok56o n) (.ocons (ok57o n) .nil)) n Tryd.func39 (by kernel_rfl) (by kernel_rfl)
noncomputable def f39o (n : Nat) (policy : Int) (seed : Int) (picks : List Int) : Option ((((Unit × Int) × Unit) ⊕ ((Unit × Int) × ((Int × (Int × (Unit × (Unit × Unit)))) × (List Int × (List (Int × Int) × (List (Int × Int) × ((Unit × (Unit × (Int × Int))) × (List Int × Unit))))))))) := c39o.f Tryd.prog (T39o n) n (policy, seed, picks) ()
theorem f39o_eq (n : Nat) (policy : Int) (seed : Int) (picks : List Int) : f39o n policy seed picks =
  bif decide (policy < (0 : Int)) then
   some (Sum.inl (((), (220 : Int)), ()))
  else
   bif decide (policy > (4 : Int)) then
    some (Sum.inl (((), (220 : Int)), ()))
   else
    bif decide (↑picks.length > (65536 : Int)) then
     some (Sum.inl (((), (3 : Int)), ()))
    else
     (f56o n picks).bind fun r1 =>
     (f57o n).bind fun r2 =>
     some (Sum.inr ((((), (0 : Int)), ((policy, (seed, ((), ((), ())))), r1.snd.fst, r2.snd.fst, r2.snd.snd.fst, ((), ((), r2.snd.snd.snd.fst.snd.snd)), [], ())))) := by kernel_rfl
/- convoy/world.Check -/
noncomputable def c23 : Cfg := ⟨23, Tryd.f23, [(.agg (.pair (.agg (.pair (.int .i64) (.pair (.int .i64) (.pair (.int .i64) (.pair (.int .i64) (.pair (.int .i64) (.pair (.int .i64) (.int .i64)))))))) (.pair (.sl 77 (.agg (.pair (.agg (.pair (.int .u16) .str)) (.sl 74 (.agg (.pair (.int .i64) (.pair (.int .i64) (.int .i64)))))))) (.pair (.sl 65 (.sl 67 (.agg (.pair (.int .i64) (.pair (.agg (.pair (.int .u16) .str)) (.pair (.int .i64) (.int .i64))))))) (.pair (.int .i64) (.pair (.int .u64) (.sl 3 (.int .i64))))))))], [(.int .i64), (.int .i64)], 6, [], []⟩
noncomputable def T23 (n : Nat) : Tab := ⟨[e37 n, e38 n], [e36o n, e39o n]⟩
noncomputable def e23 (n : Nat) : Entry := c23.entry Tryd.prog (T23 n) n
theorem ok23 {W0 : World} (n : Nat) : FnOK Tryd.prog W0 (e23 n) := c23.sound (.ocons (ok36o n) (.cons (ok37 n) (.cons (ok38 n) (.ocons (ok39o n) .nil)))) n Tryd.func23 (by kernel_rfl) (by kernel_rfl)
noncomputable def f23 (n : Nat) (s : ((Int × (Int × (Int × (Int × (Int × (Int × Int)))))) × (List ((Int × ByteArray) × List (Int × (Int × Int))) × (List (List (Int × ((Int × ByteArray) × (Int × Int)))) × (Int × (Int × List Int)))))) : Option (Int × Int) := c23.f Tryd.prog (T23 n) n s
theorem f23_eq (n : Nat) (s : ((Int × (Int × (Int × (Int × (Int × (Int × Int)))))) × (List ((Int × ByteArray) × List (Int × (Int × Int))) × (List (List (Int × ((Int × ByteArray) × (Int × Int)))) × (Int × (Int × List Int)))))) : f23 n s =
  (f36o n s.fst).bind fun r1 =>
  Sum.elim (fun p2 =>
   bif p2.fst.snd != (0 : Int) then
    some ((0 : Int), p2.fst.snd)
   else
    (f37 n s.snd.1).bind fun r3 =>
    bif r3.snd != (0 : Int) then
     some (r3.fst, r3.snd)
    else
     (f38 n s.snd.snd.1).bind fun r4 =>
     bif r4.snd != (0 : Int) then
      some (r4.fst, r4.snd)
     else
      (f39o n s.snd.snd.snd.fst s.snd.snd.snd.snd.fst s.snd.snd.snd.snd.2).bind fun r5 =>
      Sum.elim (fun p6 =>
       some ((0 : Int), p6.fst.snd)) (fun p6 =>
       some ((0 : Int), p6.fst.snd)) r5) (fun p2 =>
   Sum.elim (fun p7 =>
    bif p7.fst.snd != (0 : Int) then
     some ((0 : Int), p7.fst.snd)
    else
     (f37 n s.snd.1).bind fun r8 =>
     bif r8.snd != (0 : Int) then
      some (r8.fst, r8.snd)
     else
      (f38 n s.snd.snd.1).bind fun r9 =>
      bif r9.snd != (0 : Int) then
       some (r9.fst, r9.snd)
      else
       (f39o n s.snd.snd.snd.fst s.snd.snd.snd.snd.fst s.snd.snd.snd.snd.2).bind fun r10 =>
       Sum.elim (fun p11 =>
        some ((0 : Int), p11.fst.snd)) (fun p11 =>
        some ((0 : Int), p11.fst.snd)) r10) (fun p7 =>
    Sum.elim (fun p12 =>
     bif p12.fst.snd != (0 : Int) then
      some ((0 : Int), p12.fst.snd)
     else
      (f37 n s.snd.1).bind fun r13 =>
      bif r13.snd != (0 : Int) then
       some (r13.fst, r13.snd)
      else
       (f38 n s.snd.snd.1).bind fun r14 =>
       bif r14.snd != (0 : Int) then
        some (r14.fst, r14.snd)
       else
        (f39o n s.snd.snd.snd.fst s.snd.snd.snd.snd.fst s.snd.snd.snd.snd.2).bind fun r15 =>
        Sum.elim (fun p16 =>
         some ((0 : Int), p16.fst.snd)) (fun p16 =>
         some ((0 : Int), p16.fst.snd)) r15) (fun p12 =>
     Sum.elim (fun p17 =>
      bif p17.fst.snd != (0 : Int) then
       some ((0 : Int), p17.fst.snd)
      else
       (f37 n s.snd.1).bind fun r18 =>
       bif r18.snd != (0 : Int) then
        some (r18.fst, r18.snd)
       else
        (f38 n s.snd.snd.1).bind fun r19 =>
        bif r19.snd != (0 : Int) then
         some (r19.fst, r19.snd)
        else
         (f39o n s.snd.snd.snd.fst s.snd.snd.snd.snd.fst s.snd.snd.snd.snd.2).bind fun r20 =>
         Sum.elim (fun p21 =>
          some ((0 : Int), p21.fst.snd)) (fun p21 =>
          some ((0 : Int), p21.fst.snd)) r20) (fun p17 =>
      Sum.elim (fun p22 =>
       bif p22.fst.snd != (0 : Int) then
        some ((0 : Int), p22.fst.snd)
       else
        (f37 n s.snd.1).bind fun r23 =>
        bif r23.snd != (0 : Int) then
         some (r23.fst, r23.snd)
        else
         (f38 n s.snd.snd.1).bind fun r24 =>
         bif r24.snd != (0 : Int) then
          some (r24.fst, r24.snd)
         else
          (f39o n s.snd.snd.snd.fst s.snd.snd.snd.snd.fst s.snd.snd.snd.snd.2).bind fun r25 =>
          Sum.elim (fun p26 =>
           some ((0 : Int), p26.fst.snd)) (fun p26 =>
           some ((0 : Int), p26.fst.snd)) r25) (fun p22 =>
       Sum.elim (fun p27 =>
        bif p27.fst.snd != (0 : Int) then
         some ((0 : Int), p27.fst.snd)
        else
         (f37 n s.snd.1).bind fun r28 =>
         bif r28.snd != (0 : Int) then
          some (r28.fst, r28.snd)
         else
          (f38 n s.snd.snd.1).bind fun r29 =>
          bif r29.snd != (0 : Int) then
           some (r29.fst, r29.snd)
          else
           (f39o n s.snd.snd.snd.fst s.snd.snd.snd.snd.fst s.snd.snd.snd.snd.2).bind fun r30 =>
           Sum.elim (fun p31 =>
            some ((0 : Int), p31.fst.snd)) (fun p31 =>
            some ((0 : Int), p31.fst.snd)) r30) (fun p27 =>
        Sum.elim (fun p32 =>
         bif p32.fst.snd != (0 : Int) then
          some ((0 : Int), p32.fst.snd)
         else
          (f37 n s.snd.1).bind fun r33 =>
          bif r33.snd != (0 : Int) then
           some (r33.fst, r33.snd)
          else
           (f38 n s.snd.snd.1).bind fun r34 =>
           bif r34.snd != (0 : Int) then
            some (r34.fst, r34.snd)
           else
            (f39o n s.snd.snd.snd.fst s.snd.snd.snd.snd.fst s.snd.snd.snd.snd.2).bind fun r35 =>
            Sum.elim (fun p36 =>
             some ((0 : Int), p36.fst.snd)) (fun p36 =>
             some ((0 : Int), p36.fst.snd)) r35) (fun p32 =>
         Sum.elim (fun p37 =>
          bif p37.fst.snd != (0 : Int) then
           some ((0 : Int), p37.fst.snd)
          else
           (f37 n s.snd.1).bind fun r38 =>
           bif r38.snd != (0 : Int) then
            some (r38.fst, r38.snd)
           else
            (f38 n s.snd.snd.1).bind fun r39 =>
            bif r39.snd != (0 : Int) then
             some (r39.fst, r39.snd)
            else
             (f39o n s.snd.snd.snd.fst s.snd.snd.snd.snd.fst s.snd.snd.snd.snd.2).bind fun r40 =>
             Sum.elim (fun p41 =>
              some ((0 : Int), p41.fst.snd)) (fun p41 =>
              some ((0 : Int), p41.fst.snd)) r40) (fun p37 =>
          Sum.elim (fun p42 =>
           bif p42.fst.snd != (0 : Int) then
            some ((0 : Int), p42.fst.snd)
           else
            (f37 n s.snd.1).bind fun r43 =>
            bif r43.snd != (0 : Int) then
             some (r43.fst, r43.snd)
            else
             (f38 n s.snd.snd.1).bind fun r44 =>
             bif r44.snd != (0 : Int) then
              some (r44.fst, r44.snd)
             else
              (f39o n s.snd.snd.snd.fst s.snd.snd.snd.snd.fst s.snd.snd.snd.snd.2).bind fun r45 =>
              Sum.elim (fun p46 =>
               some ((0 : Int), p46.fst.snd)) (fun p46 =>
               some ((0 : Int), p46.fst.snd)) r45) (fun p42 =>
           Sum.elim (fun p47 =>
            bif p47.fst.snd != (0 : Int) then
             some ((0 : Int), p47.fst.snd)
            else
             (f37 n s.snd.1).bind fun r48 =>
             bif r48.snd != (0 : Int) then
              some (r48.fst, r48.snd)
             else
              (f38 n s.snd.snd.1).bind fun r49 =>
              bif r49.snd != (0 : Int) then
               some (r49.fst, r49.snd)
              else
               (f39o n s.snd.snd.snd.fst s.snd.snd.snd.snd.fst s.snd.snd.snd.snd.2).bind fun r50 =>
               Sum.elim (fun p51 =>
                some ((0 : Int), p51.fst.snd)) (fun p51 =>
                some ((0 : Int), p51.fst.snd)) r50) (fun p47 =>
            Sum.elim (fun p52 =>
             bif p52.fst.snd != (0 : Int) then
              some ((0 : Int), p52.fst.snd)
             else
              (f37 n s.snd.1).bind fun r53 =>
              bif r53.snd != (0 : Int) then
               some (r53.fst, r53.snd)
              else
               (f38 n s.snd.snd.1).bind fun r54 =>
               bif r54.snd != (0 : Int) then
                some (r54.fst, r54.snd)
               else
                (f39o n s.snd.snd.snd.fst s.snd.snd.snd.snd.fst s.snd.snd.snd.snd.2).bind fun r55 =>
                Sum.elim (fun p56 =>
                 some ((0 : Int), p56.fst.snd)) (fun p56 =>
                 some ((0 : Int), p56.fst.snd)) r55) (fun p52 =>
             Sum.elim (fun p57 =>
              bif p57.fst.snd != (0 : Int) then
               some ((0 : Int), p57.fst.snd)
              else
               (f37 n s.snd.1).bind fun r58 =>
               bif r58.snd != (0 : Int) then
                some (r58.fst, r58.snd)
               else
                (f38 n s.snd.snd.1).bind fun r59 =>
                bif r59.snd != (0 : Int) then
                 some (r59.fst, r59.snd)
                else
                 (f39o n s.snd.snd.snd.fst s.snd.snd.snd.snd.fst s.snd.snd.snd.snd.2).bind fun r60 =>
                 Sum.elim (fun p61 =>
                  some ((0 : Int), p61.fst.snd)) (fun p61 =>
                  some ((0 : Int), p61.fst.snd)) r60) (fun p57 =>
              bif p57.fst.snd != (0 : Int) then
               some ((0 : Int), p57.fst.snd)
              else
               (f37 n s.snd.1).bind fun r62 =>
               bif r62.snd != (0 : Int) then
                some (r62.fst, r62.snd)
               else
                (f38 n s.snd.snd.1).bind fun r63 =>
                bif r63.snd != (0 : Int) then
                 some (r63.fst, r63.snd)
                else
                 (f39o n s.snd.snd.snd.fst s.snd.snd.snd.snd.fst s.snd.snd.snd.snd.2).bind fun r64 =>
                 Sum.elim (fun p65 =>
                  some ((0 : Int), p65.fst.snd)) (fun p65 =>
                  some ((0 : Int), p65.fst.snd)) r64) p52) p47) p42) p37) p32) p27) p22) p17) p12) p7) p2) r1 := by kernel_rfl
/- convoy/convoylaw29.StoryMakes -/
noncomputable def c5 : Cfg := ⟨5, Tryd.f5, [(.agg (.pair (.int .i64) (.pair (.int .i64) (.pair (.int .i64) (.pair (.int .i64) (.pair (.int .i64) (.int .u64))))))), (.agg (.pair (.int .i64) (.pair (.int .i64) (.pair (.int .i64) (.pair (.int .i64) (.pair (.int .i64) (.pair (.int .i64) (.int .i64))))))))], [.bool], 7, [6, 8], [(13, ⟨83, 7, [(2, (.ptr 1002 [])), (3, (.ptr 1003 [])), (5, (.ptr 1005 [])), (6, (.val (.int .i64))), (7, (.val .bool)), (8, (.val (.int .i64)))], [(1002, .box (.val (.agg (.pair (.int .i64) (.pair (.int .i64) (.pair (.int .i64) (.pair (.int .i64) (.pair (.int .i64) (.int .u64))))))))), (1003, .box (.val (.agg (.pair (.int .i64) (.pair (.int .i64) (.pair (.int .i64) (.pair (.int .i64) (.pair (.int .i64) (.pair (.int .i64) (.int .i64)))))))))), (1005, .box (.val (.agg (.pair (.agg (.pair (.int .i64) (.pair (.int .i64) (.pair (.int .i64) (.pair (.int .i64) (.pair (.int .i64) (.pair (.int .i64) (.int .i64)))))))) (.pair (.sl 77 (.agg (.pair (.agg (.pair (.int .u16) .str)) (.sl 74 (.agg (.pair (.int .i64) (.pair (.int .i64) (.int .i64)))))))) (.pair (.sl 65 (.sl 67 (.agg (.pair (.int .i64) (.pair (.agg (.pair (.int .u16) .str)) (.pair (.int .i64) (.int .i64))))))) (.pair (.int .i64) (.pair (.int .u64) (.sl 3 (.int .i64))))))))))]⟩), (17, ⟨83, 7, [(2, (.ptr 1002 [])), (3, (.ptr 1003 [])), (5, (.ptr 1005 [])), (7, (.val .bool))], [(1002, .box (.val (.agg (.pair (.int .i64) (.pair (.int .i64) (.pair (.int .i64) (.pair (.int .i64) (.pair (.int .i64) (.int .u64))))))))), (1003, .box (.val (.agg (.pair (.int .i64) (.pair (.int .i64) (.pair (.int .i64) (.pair (.int .i64) (.pair (.int .i64) (.pair (.int .i64) (.int .i64)))))))))), (1005, .box (.val (.agg (.pair (.agg (.pair (.int .i64) (.pair (.int .i64) (.pair (.int .i64) (.pair (.int .i64) (.pair (.int .i64) (.pair (.int .i64) (.int .i64)))))))) (.pair (.sl 77 (.agg (.pair (.agg (.pair (.int .u16) .str)) (.sl 74 (.agg (.pair (.int .i64) (.pair (.int .i64) (.int .i64)))))))) (.pair (.sl 65 (.sl 67 (.agg (.pair (.int .i64) (.pair (.agg (.pair (.int .u16) .str)) (.pair (.int .i64) (.int .i64))))))) (.pair (.int .i64) (.pair (.int .u64) (.sl 3 (.int .i64))))))))))]⟩)]⟩
noncomputable def T5 (n : Nat) : Tab := ⟨[e17L n, e19 n, e18 n, e8 n, e20 n, e22 n, e21 n, e23 n, e24 n], []⟩
noncomputable def e5 (n : Nat) : Entry := c5.entry Tryd.prog (T5 n) n
theorem ok5 {W0 : World} (hL : Laid W0) (n : Nat) : FnOK Tryd.prog W0 (e5 n) := c5.sound (.cons (ok17L hL n) (.cons (ok19 n) (.cons (ok18 n) (.cons (ok8 n) (.cons (ok20 n) (.cons (ok22 n) (.cons (ok21 n) (.cons (ok23 n) (.cons (ok24 n) .nil))))))))) n Tryd.func5 (by kernel_rfl) (by kernel_rfl)
noncomputable def f5 (n : Nat) (t : (Int × (Int × (Int × (Int × (Int × Int)))))) (c : (Int × (Int × (Int × (Int × (Int × (Int × Int))))))) : Option (Bool) := c5.f Tryd.prog (T5 n) n (t, c)
noncomputable def f5_13 (n m : Nat) (e : Int) (may : Bool) (want : Int) (b1002 : (Int × (Int × (Int × (Int × (Int × Int)))))) (b1003 : (Int × (Int × (Int × (Int × (Int × (Int × Int))))))) (b1005 : ((Int × (Int × (Int × (Int × (Int × (Int × Int)))))) × (List ((Int × ByteArray) × List (Int × (Int × Int))) × (List (List (Int × ((Int × ByteArray) × (Int × Int)))) × (Int × (Int × List Int)))))) : Option (Bool) := c5.LL Tryd.prog (T5 n) m 13 ((), (), (), e, may, want) (b1002, b1003, b1005, ())
noncomputable def f5_17 (n m : Nat) (may : Bool) (b1002 : (Int × (Int × (Int × (Int × (Int × Int)))))) (b1003 : (Int × (Int × (Int × (Int × (Int × (Int × Int))))))) (b1005 : ((Int × (Int × (Int × (Int × (Int × (Int × Int)))))) × (List ((Int × ByteArray) × List (Int × (Int × Int))) × (List (List (Int × ((Int × ByteArray) × (Int × Int)))) × (Int × (Int × List Int)))))) : Option (Bool) := c5.LL Tryd.prog (T5 n) m 17 ((), (), (), may) (b1002, b1003, b1005, ())
theorem f5_13_zero (n : Nat) (e : Int) (may : Bool) (want : Int) (b1002 : (Int × (Int × (Int × (Int × (Int × Int)))))) (b1003 : (Int × (Int × (Int × (Int × (Int × (Int × Int))))))) (b1005 : ((Int × (Int × (Int × (Int × (Int × (Int × Int)))))) × (List ((Int × ByteArray) × List (Int × (Int × Int))) × (List (List (Int × ((Int × ByteArray) × (Int × Int)))) × (Int × (Int × List Int)))))) : f5_13 n 0 e may want b1002 b1003 b1005 = none := rfl
theorem f5_13_eq (n m : Nat) (e : Int) (may : Bool) (want : Int) (b1002 : (Int × (Int × (Int × (Int × (Int × Int)))))) (b1003 : (Int × (Int × (Int × (Int × (Int × (Int × Int))))))) (b1005 : ((Int × (Int × (Int × (Int × (Int × (Int × Int)))))) × (List ((Int × ByteArray) × List (Int × (Int × Int))) × (List (List (Int × ((Int × ByteArray) × (Int × Int)))) × (Int × (Int × List Int)))))) : f5_13 n (m + 1) e may want b1002 b1003 b1005 =
  (f8 n).bind fun r1 =>
  bif !r1 then
   some false
  else
   bif e != want then
    some false
   else
    (f20 n b1002).bind fun r2 =>
    bif r2 != want then
     some false
    else
     f5_17 n m may b1002 b1003 b1005 := by kernel_rfl
theorem f5_17_zero (n : Nat) (may : Bool) (b1002 : (Int × (Int × (Int × (Int × (Int × Int)))))) (b1003 : (Int × (Int × (Int × (Int × (Int × (Int × Int))))))) (b1005 : ((Int × (Int × (Int × (Int × (Int × (Int × Int)))))) × (List ((Int × ByteArray) × List (Int × (Int × Int))) × (List (List (Int × ((Int × ByteArray) × (Int × Int)))) × (Int × (Int × List Int)))))) : f5_17 n 0 may b1002 b1003 b1005 = none := rfl
theorem f5_17_eq (n m : Nat) (may : Bool) (b1002 : (Int × (Int × (Int × (Int × (Int × Int)))))) (b1003 : (Int × (Int × (Int × (Int × (Int × (Int × Int))))))) (b1005 : ((Int × (Int × (Int × (Int × (Int × (Int × Int)))))) × (List ((Int × ByteArray) × List (Int × (Int × Int))) × (List (List (Int × ((Int × ByteArray) × (Int × Int)))) × (Int × (Int × List Int)))))) : f5_17 n (m + 1) may b1002 b1003 b1005 =
  bif !may then
   bif ↑(List.length b1005.snd.snd.fst) == (0 : Int) then
    some (↑(List.length b1005.snd.fst) == (0 : Int))
   else
    some false
  else
   bif !(b1005.fst.fst == b1003.fst && (b1005.fst.snd.fst == b1003.snd.fst && (b1005.fst.snd.snd.fst == b1003.snd.snd.fst && (b1005.fst.snd.snd.snd.fst == b1003.snd.snd.snd.fst && (b1005.fst.snd.snd.snd.snd.fst == b1003.snd.snd.snd.snd.fst && (b1005.fst.snd.snd.snd.snd.snd.fst == b1003.snd.snd.snd.snd.snd.fst && b1005.fst.snd.snd.snd.snd.snd.snd == b1003.snd.snd.snd.snd.snd.snd)))))) then
    some false
   else
    (f19 n b1002).bind fun r1 =>
    (f22 n r1 ((0 : Int), (0 : Int), (0 : Int), (0 : Int), (0 : Int), (0 : Int), (0 : Int))).bind fun r2 =>
    (f21 n (b1005.fst, b1005.snd.1, b1005.snd.snd.1, b1005.snd.snd.snd.fst, b1005.snd.snd.snd.snd.fst, b1005.snd.snd.snd.snd.2) (r2.fst, r2.snd.1, r2.snd.snd.1, r2.snd.snd.snd.fst, r2.snd.snd.snd.snd.fst, r2.snd.snd.snd.snd.2)).bind fun r3 =>
    bif !r3 then
     some false
    else
     (f23 n (b1005.fst, b1005.snd.1, b1005.snd.snd.1, b1005.snd.snd.snd.fst, b1005.snd.snd.snd.snd.fst, b1005.snd.snd.snd.snd.2)).bind fun r4 =>
     (f24 n b1003).bind fun r5 =>
     some ((r4.snd == (0 : Int)) == r5) := by kernel_rfl
theorem f5_eq (n : Nat) (t : (Int × (Int × (Int × (Int × (Int × Int)))))) (c : (Int × (Int × (Int × (Int × (Int × (Int × Int))))))) : f5 n t c =
  (f17L n t c).bind fun r1 =>
  (f19 n t).bind fun r2 =>
  (f18 n r2).bind fun r3 =>
  bif r3 then
   f5_13 n n r1.snd r3 (0 : Int) t c r1.fst
  else
   f5_13 n n r1.snd r3 (290 : Int) t c r1.fst := by kernel_rfl
end Go.Proofs.YtaakmifjkobkgaaDoor
