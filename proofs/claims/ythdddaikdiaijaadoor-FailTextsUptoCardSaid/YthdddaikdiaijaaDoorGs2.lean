/- Go's library at texts, by its contracts, behind the listed variables: strings.Split, strconv.Atoi. -/
import Derived.Test.YthdddaikdiaijaaDoorGs
import Derived.Lib.AtoiErrMem
import Derived.Lib.AtoiAllCases
import Derived.Lib.SplitLaws
import Derived.Shelf.Strconv.ErrVarAll
namespace Go.Proofs.YthdddaikdiaijaaDoor
open Go.Rf Go.RowKit
theorem strs_cells {w : World} {own : Nat → Prop} : ∀ {l : List ByteArray} {cs : List Value}, Row (DR w own .str) l cs → cs = l.map Value.string
  | [], _, h => h
  | x :: l, _, ⟨a, b, e, h1, h2⟩ => by
    have h1 : a = [Value.string x] := h1
    rw [e, h1, strs_cells h2]
    rfl
theorem strs_row {w : World} {own : Nat → Prop} : ∀ (l : List ByteArray), Row (DR w own .str) l (l.map Value.string)
  | [] => rfl
  | x :: l => ⟨[Value.string x], l.map Value.string, rfl, rfl, strs_row l⟩
/-- What is read besides: the two errors of strconv, the longest text that is looked through at once. -/
structure Laid2 (W0 : World) : Prop where
  base : Laid W0
  rng : ∃ tp p, W0.var? Tryd.prog "strconv.ErrRange" = some #[.iface tp p]
  syn : ∃ tp p, W0.var? Tryd.prog "strconv.ErrSyntax" = some #[.iface tp p]
  max : ∃ m : Int, W0.cell? ⟨3, 0, none⟩ = some (.int .i64 m)
theorem Laid2.below {W W' : World} (h : Below W.heap.size W W') (hv : Laid2 W) : Laid2 W' := by
  obtain ⟨h1, ⟨t2, p2, h2⟩, ⟨t3, p3, h3⟩, ⟨m, h4⟩⟩ := hv
  exact ⟨h1.below h, ⟨t2, p2, var_below h h2⟩, ⟨t3, p3, var_below h h3⟩, ⟨m, cell_below h h4⟩⟩
/-- strings.Split at something that is not empty. -/
noncomputable def splitF (s t : ByteArray) : Option (List ByteArray) := if s.size < 4294967281 ∧ 1 ≤ t.size then some (Lib.splitB t 0 (Lib.countB s t) s) else none
noncomputable def e32L (_ : Nat) : Entry := ⟨32, [.str, .str], [.sl 9 .str], fun y => splitF y.1 y.2⟩
noncomputable def f32L (_ : Nat) (s t : ByteArray) : Option (List ByteArray) := splitF s t
theorem ok32L {W0 : World} (hL : Laid2 W0) (n : Nat) : FnOK Tryd.prog W0 (e32L n) := by
  refine FnOK.of_calls Tryd.func32 (by kernel_rfl) (by kernel_rfl) ?_
  rintro own w ⟨s, t⟩ r xs hf hb ho ⟨x, _, rfl, hx, y, rfl, hy⟩
  have hf : splitF s t = some r := hf
  obtain ⟨_, _, _, ⟨m, hm⟩⟩ := hL.below hb
  unfold splitF at hf
  split at hf
  · rename_i hc
    cases hf
    have hx : [x] = [Value.string s] := hx
    have hy : [y] = [Value.string t] := hy
    injection hx with hx
    injection hy with hy
    subst hx; subst hy
    refine (Tryd.strings_Split s t m w hc.1 hm hc.2).mono fun e w' ⟨he, hw⟩ => ⟨[_], he, ?_, _, rfl, ?_⟩
    · rw [hw]; exact (Below.refl _ w).alloc (Nat.le_refl _) _
    · subst hw
      have hlen := Lib.splitB_all t hc.2 0 (Lib.countB s t) s rfl
      have hno : ¬ own w.heap.size := fun h => Nat.lt_irrefl _ (ho _ h)
      refine (⟨some ⟨w.heap.size, 0, none⟩, Lib.countB s t + 1, by rw [hlen], by rw [hlen]; exact Nat.le_refl _, fun _ => ⟨w.heap.size, 0, (Lib.splitB t 0 (Lib.countB s t) s).map Value.string, rfl, hno, by simp, strs_row _, ?_⟩⟩ :
        DR (w.alloc (.cells ((Lib.splitB t 0 (Lib.countB s t) s).map Value.string).toArray 9)) own (.sl 9 .str) (Lib.splitB t 0 (Lib.countB s t) s) [_])
      have := cells_of_row (w := w.alloc (.cells ((Lib.splitB t 0 (Lib.countB s t) s).map Value.string).toArray 9)) (b := w.heap.size) (pre := []) (us := (Lib.splitB t 0 (Lib.countB s t) s).map Value.string) (post := []) (by simpa using heap_alloc_new w _)
      simpa using this
  · cases hf
/-- strconv.Atoi: the number, and whether there is an error. -/
noncomputable def atoiF (s : ByteArray) : Option (Int × Bool) :=
  if s.size ≤ 281474976710656 then
    match Lib.atoiAll s.data.toList with
    | .ok v => some (v, false)
    | .range => some (Lib.atoiSat s.data.toList, true)
    | _ => some (0, true)
  else none
noncomputable def e34L (_ : Nat) : Entry := ⟨34, [.str], [.int .i64, .ifc], fun y => atoiF y⟩
noncomputable def f34L (_ : Nat) (s : ByteArray) : Option (Int × Bool) := atoiF s
theorem ok34L {W0 : World} (hL : Laid2 W0) (n : Nat) : FnOK Tryd.prog W0 (e34L n) := by
  refine FnOK.of_calls Tryd.func34 (by kernel_rfl) (by kernel_rfl) ?_
  rintro own w s r xs hf hb _ ⟨x, rfl, hx⟩
  replace hf : atoiF s = some r := hf
  obtain ⟨_, ⟨t2, p2, h2⟩, ⟨t3, p3, h3⟩, _⟩ := hL.below hb
  unfold atoiF at hf
  split at hf
  · rename_i hs
    have hx : [x] = [Value.string s] := hx
    injection hx with hx
    subst hx
    cases hp : Lib.atoiAll s.data.toList
    · rename_i v
      rw [hp] at hf
      cases hf
      refine (Tryd.strconv_Atoi_ok s (by omega) v hp w).mono fun e w' ⟨he, hw⟩ => ⟨[_, _], he, ?_, _, _, rfl, rfl, _, rfl, _, rfl, .inl ⟨rfl, rfl⟩⟩
      rcases hw with rfl | ⟨t, rfl⟩
      · exact Below.refl _ _
      · exact Lib.bytesWorld_below w 5 t
    · rw [hp] at hf
      cases hf
      exact (Any.strconv_Atoi_syntax_var Tryd.laysC172 s hs hp t3 p3 w h3).mono fun e w' ⟨N, he, _, _, hw⟩ => ⟨[_, _], he, hw, _, _, rfl, rfl, _, rfl, _, rfl, .inr ⟨rfl, _, _, rfl⟩⟩
    · rw [hp] at hf
      cases hf
      exact (Any.strconv_Atoi_range_var Tryd.laysC172 s hs hp t2 p2 w h2).mono fun e w' ⟨N, he, _, _, hw⟩ => ⟨[_, _], he, hw, _, _, rfl, rfl, _, rfl, _, rfl, .inr ⟨rfl, _, _, rfl⟩⟩
  · cases hf
end Go.Proofs.YthdddaikdiaijaaDoor
