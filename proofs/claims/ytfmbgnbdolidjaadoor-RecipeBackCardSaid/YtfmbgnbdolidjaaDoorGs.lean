/- Go's library at texts, by its contracts, behind the listed variables: strings.Join, strconv.FormatInt and ParseInt, strings.Split. -/
import Derived.Test.YtfmbgnbdolidjaaDoorRfU
import Derived.Test.YtfmbgnbdolidjaaDoorSh
import Derived.Lib.LaidTab
import Derived.Stop.LaidErr
import Derived.WalkSmall
import Derived.Lib.AtoiErrMem
import Derived.Lib.SplitLaws
namespace Go.Proofs.YtfmbgnbdolidjaaDoor
open Go.Rf Go.RowKit
theorem strs_cells {w : World} {own : Nat → Prop} : ∀ {l : List ByteArray} {cs : List Value}, Row (DR w own .str) l cs → cs = l.map Value.string
  | [], _, h => h
  | x :: l, _, ⟨a, b, e, h1, h2⟩ => by
    have h1 : a = [Value.string x] := h1
    rw [e, h1, strs_cells h2]
    rfl
theorem strs_row {w : World} {own : Nat → Prop} : ∀ (l : List ByteArray), Row (DR w own .str) l (l.map Value.string)
  | [] => rfl
  | x :: l => ⟨[Value.string x], l.map Value.string, rfl, rfl, strs_row l⟩
/-- strings.Join. -/
noncomputable def joinF (xs : List ByteArray) (sep : ByteArray) : Option ByteArray :=
  if xs.length ≤ 140737488355328 ∧ (Lib.join (xs.map (·.data.toList)) sep.data.toList).length ≤ 140737488355328 then some ⟨(Lib.join (xs.map (·.data.toList)) sep.data.toList).toArray⟩ else none
noncomputable def e19 (_ : Nat) : Entry := ⟨19, [.sl 9 .str, .str], [.str], fun y => joinF y.1 y.2⟩
noncomputable def f19 (_ : Nat) (xs : List ByteArray) (sep : ByteArray) : Option ByteArray := joinF xs sep
theorem ok19 {W0 : World} (n : Nat) : FnOK Tryd.prog W0 (e19 n) := by
  refine FnOK.of_calls Tryd.func19 (by kernel_rfl) (by kernel_rfl) ?_
  rintro own w ⟨l, sep⟩ r xs hf _ _ ⟨x, _, rfl, hx, y, rfl, hy⟩
  have hf : joinF l sep = some r := hf
  unfold joinF at hf
  split at hf
  · rename_i hc
    obtain ⟨hN, hlen⟩ := hc
    cases hf
    have hy : [y] = [Value.string sep] := hy
    injection hy with hy
    subst hy
    obtain ⟨a, c, e, hcap, hcell⟩ : ∃ a c, [x] = [Value.slice a l.length c] ∧ l.length ≤ c ∧ (l ≠ [] → ∃ b off css, a = some ⟨b, off, none⟩ ∧ ¬ own b ∧ b < w.heap.size ∧ Row (DR w own .str) l css ∧ Cells w b off css) := hx
    injection e with e
    subst e
    cases l with
    | nil =>
      refine (Tryd.strings_Join_none a c sep w).mono fun e w' ⟨he, hw⟩ => ⟨[_], he, by rw [hw]; exact Below.refl _ _, _, rfl, rfl⟩
    | cons z l =>
    obtain ⟨b, off, css, rfl, _, hlt, hrow, hcs⟩ := hcell (by simp)
    refine (Tryd.strings_Join b off c (z :: l) sep w (fun j x hj => hcs j _ (by rw [strs_cells hrow, List.getElem?_map, hj]; rfl)) hlt hN hcap hlen).mono fun e w' ⟨he, hw⟩ => ⟨[_], he, hw, _, rfl, rfl⟩
  · cases hf
/-- The listed variables that are read: the table of powers of ten, the two errors of strconv, the longest text that is looked through at once. -/
structure Laid (W0 : World) : Prop where
  tab : Lib.TabIs Tryd.prog W0 "internal/strconv.uint64pow10" .u64 Lib.pow10Tab
  rng : ∃ tp p, W0.var? Tryd.prog "strconv.ErrRange" = some #[.iface tp p]
  syn : ∃ tp p, W0.var? Tryd.prog "strconv.ErrSyntax" = some #[.iface tp p]
  max : ∃ m : Int, W0.cell? ⟨1, 0, none⟩ = some (.int .i64 m)
theorem var_below {W W' : World} {n : String} {cs : Array Value} (h : Below W.heap.size W W') (hv : W.var? Tryd.prog n = some cs) : W'.var? Tryd.prog n = some cs := by
  cases hg : Tryd.prog.globalNamed n with
  | none =>
    unfold World.var? at hv
    rw [hg] at hv
    cases hv
  | some g =>
    refine var?_below h hg ?_ hv
    unfold World.var? at hv
    rw [hg] at hv
    simp only [Option.bind_some] at hv
    rcases Nat.lt_or_ge g W.heap.size with h0 | h0
    · exact h0
    · rw [Array.getElem?_eq_none h0] at hv
      cases hv
theorem cell_below {W W' : World} {b o : Nat} {v : Value} (h : Below W.heap.size W W') (hv : W.cell? ⟨b, o, none⟩ = some v) : W'.cell? ⟨b, o, none⟩ = some v := by
  have hlt : b < W.heap.size := by
    rcases Nat.lt_or_ge b W.heap.size with h0 | h0
    · exact h0
    · unfold World.cell? at hv
      rw [Array.getElem?_eq_none h0] at hv
      cases hv
  unfold World.cell? at hv ⊢
  rw [h.block b hlt]
  exact hv
theorem Laid.below {W W' : World} (h : Below W.heap.size W W') (hv : Laid W) : Laid W' := by
  obtain ⟨h1, ⟨t2, p2, h2⟩, ⟨t3, p3, h3⟩, ⟨m, h4⟩⟩ := hv
  exact ⟨var_below h h1, ⟨t2, p2, var_below h h2⟩, ⟨t3, p3, var_below h h3⟩, ⟨m, cell_below h h4⟩⟩
noncomputable def itoaF (n : Int) : Option ByteArray := if -9223372036854775808 ≤ n ∧ n ≤ 9223372036854775807 then some ⟨(Lib.itoa n).toArray⟩ else none
theorem below_grow {w w' : World} (h : ∃ k os, w' = Go.Sort.grow (w.drewN k) os) : Below w.heap.size w w' := by
  obtain ⟨k, os, rfl⟩ := h
  refine ⟨rfl, rfl, rfl, ?_, fun j hj => ?_⟩
  · show w.heap.size ≤ (w.heap ++ os).size
    rw [Array.size_append]
    omega
  · show (w.heap ++ os)[j]? = w.heap[j]?
    exact Array.getElem?_append_left (by omega)
noncomputable def formatF (n b : Int) : Option ByteArray := if b = 10 then itoaF n else none
noncomputable def e18L (_ : Nat) : Entry := ⟨18, [.int .i64, .int .i64], [.str], fun y => formatF y.1 y.2⟩
noncomputable def f18L (_ : Nat) (n b : Int) : Option ByteArray := formatF n b
theorem ok18L {W0 : World} (hL : Laid W0) (n : Nat) : FnOK Tryd.prog W0 (e18L n) := by
  refine FnOK.of_calls Tryd.func18 (by kernel_rfl) (by kernel_rfl) ?_
  rintro own w ⟨i, b⟩ r xs hf hb _ ⟨x, _, rfl, hx, y, rfl, hy⟩
  have hf : formatF i b = some r := hf
  unfold formatF itoaF at hf
  split at hf
  · rename_i hb10
    split at hf
    · rename_i hi
      cases hf
      have hx : [x] = [Value.int .i64 i] := hx
      have hy : [y] = [Value.int .i64 b] := hy
      injection hx with hx
      injection hy with hy
      subst hx; subst hy; subst hb10
      exact (Tryd.strconv_FormatInt_10 i hi.1 hi.2 w (hL.below hb).tab).mono fun e w' ⟨he, hw⟩ => ⟨[_], he, below_grow hw, _, rfl, rfl⟩
    · cases hf
  · cases hf
/-- strconv.ParseInt of base 10, to 64 bits: the number, and whether there is an error. -/
noncomputable def parseF (s : ByteArray) (b z : Int) : Option (Int × Bool) :=
  if b = 10 ∧ z = 64 ∧ s.size ≤ 281474976710656 then
    match Lib.parseIntB 64 s.data.toList with
    | .ok v => some (v, false)
    | .range => some (Lib.intSat 64 s.data.toList, true)
    | _ => some (0, true)
  else none
noncomputable def e55L (_ : Nat) : Entry := ⟨55, [.str, .int .i64, .int .i64], [.int .i64, .ifc], fun y => parseF y.1 y.2.1 y.2.2⟩
noncomputable def f55L (_ : Nat) (s : ByteArray) (b z : Int) : Option (Int × Bool) := parseF s b z
theorem ok55L {W0 : World} (hL : Laid W0) (n : Nat) : FnOK Tryd.prog W0 (e55L n) := by
  refine FnOK.of_calls Tryd.func55 (by kernel_rfl) (by kernel_rfl) ?_
  rintro own w ⟨s, b, z⟩ r xs hf hb _ ⟨x, _, rfl, hx, y, _, rfl, hy, u, rfl, hu⟩
  replace hf : parseF s b z = some r := hf
  obtain ⟨_, ⟨t2, p2, h2⟩, ⟨t3, p3, h3⟩, _⟩ := hL.below hb
  unfold parseF at hf
  split at hf
  · rename_i hc
    obtain ⟨hb10, hz, hs⟩ := hc
    have hx : [x] = [Value.string s] := hx
    have hy : [y] = [Value.int .i64 b] := hy
    have hu : [u] = [Value.int .i64 z] := hu
    injection hx with hx
    injection hy with hy
    injection hu with hu
    subst hx; subst hy; subst hu; subst hb10; subst hz
    cases hp : Lib.parseIntB 64 s.data.toList
    · rename_i v
      rw [hp] at hf
      cases hf
      refine (Tryd.strconv_ParseInt_10_at64_ok s (by omega) v hp w).mono fun e w' ⟨he, hw⟩ => ⟨[_, _], he, ?_, _, _, rfl, rfl, _, rfl, _, rfl, .inl ⟨rfl, rfl⟩⟩
      rcases hw with rfl | ⟨t, rfl⟩
      · exact Below.refl _ _
      · exact Lib.bytesWorld_below w 5 t
    · rw [hp] at hf
      cases hf
      exact (Any.strconv_ParseInt_10_at64_syntax_var Tryd.laysC174 s hs hp t3 p3 w h3).mono fun e w' ⟨N, he, _, _, hw⟩ => ⟨[_, _], he, hw, _, _, rfl, rfl, _, rfl, _, rfl, .inr ⟨rfl, _, _, rfl⟩⟩
    · rw [hp] at hf
      cases hf
      exact (Any.strconv_ParseInt_10_at64_range_var Tryd.laysC174 s hs hp t2 p2 w h2).mono fun e w' ⟨N, he, _, _, hw⟩ => ⟨[_, _], he, hw, _, _, rfl, rfl, _, rfl, _, rfl, .inr ⟨rfl, _, _, rfl⟩⟩
  · cases hf
/-- strings.Split at something that is not empty. -/
noncomputable def splitF (s t : ByteArray) : Option (List ByteArray) := if s.size < 4294967281 ∧ 1 ≤ t.size then some (Lib.splitB t 0 (Lib.countB s t) s) else none
noncomputable def e23L (_ : Nat) : Entry := ⟨23, [.str, .str], [.sl 9 .str], fun y => splitF y.1 y.2⟩
noncomputable def f23L (_ : Nat) (s t : ByteArray) : Option (List ByteArray) := splitF s t
theorem ok23L {W0 : World} (hL : Laid W0) (n : Nat) : FnOK Tryd.prog W0 (e23L n) := by
  refine FnOK.of_calls Tryd.func23 (by kernel_rfl) (by kernel_rfl) ?_
  rintro own w ⟨s, t⟩ r xs hf hb ho ⟨x, _, rfl, hx, y, rfl, hy⟩
  have hf : splitF s t = some r := hf
  obtain ⟨_, _, _, ⟨m, hm⟩⟩ := hL.below hb
  unfold splitF at hf
  split at hf
  · rename_i hc
    cases hf
    have hx : [x] = [Value.string s] := hx
    have hy : [y] = [Value.string t] := hy
    injection hx with hx
    injection hy with hy
    subst hx; subst hy
    refine (Tryd.strings_Split s t m w hc.1 hm hc.2).mono fun e w' ⟨he, hw⟩ => ⟨[_], he, ?_, _, rfl, ?_⟩
    · rw [hw]; exact (Below.refl _ w).alloc (Nat.le_refl _) _
    · subst hw
      have hlen := Lib.splitB_all t hc.2 0 (Lib.countB s t) s rfl
      have hno : ¬ own w.heap.size := fun h => Nat.lt_irrefl _ (ho _ h)
      refine (⟨some ⟨w.heap.size, 0, none⟩, Lib.countB s t + 1, by rw [hlen], by rw [hlen]; exact Nat.le_refl _, fun _ => ⟨w.heap.size, 0, (Lib.splitB t 0 (Lib.countB s t) s).map Value.string, rfl, hno, by simp, strs_row _, ?_⟩⟩ :
        DR (w.alloc (.cells ((Lib.splitB t 0 (Lib.countB s t) s).map Value.string).toArray 9)) own (.sl 9 .str) (Lib.splitB t 0 (Lib.countB s t) s) [_])
      have := cells_of_row (w := w.alloc (.cells ((Lib.splitB t 0 (Lib.countB s t) s).map Value.string).toArray 9)) (b := w.heap.size) (pre := []) (us := (Lib.splitB t 0 (Lib.countB s t) s).map Value.string) (post := []) (by simpa using heap_alloc_new w _)
      simpa using this
  · cases hf
end Go.Proofs.YtfmbgnbdolidjaaDoor
