/- Go's library at texts, by its contracts, behind the listed variables: strconv.Itoa, FormatInt, ParseInt; strings.Index and LastIndex of one byte. -/
import Derived.Test.YthpcpofcadpijaaDoorGs
import Derived.Lib.LaidTab
import Derived.Stop.LaidErr
import Derived.WalkSmall
import Derived.Lib.AtoiErrMem
namespace Go.Proofs.YthpcpofcadpijaaDoor
open Go.Rf Go.RowKit
/-- The listed variables that are read: the table of powers of ten, the two errors of strconv. -/
structure Laid (W0 : World) : Prop where
  tab : Lib.TabIs Tryd.prog W0 "internal/strconv.uint64pow10" .u64 Lib.pow10Tab
  rng : ∃ tp p, W0.var? Tryd.prog "strconv.ErrRange" = some #[.iface tp p]
  syn : ∃ tp p, W0.var? Tryd.prog "strconv.ErrSyntax" = some #[.iface tp p]
theorem var_below {W W' : World} {n : String} {cs : Array Value} (h : Below W.heap.size W W') (hv : W.var? Tryd.prog n = some cs) : W'.var? Tryd.prog n = some cs := by
  cases hg : Tryd.prog.globalNamed n with
  | none =>
    unfold World.var? at hv
    rw [hg] at hv
    cases hv
  | some g =>
    refine var?_below h hg ?_ hv
    unfold World.var? at hv
    rw [hg] at hv
    simp only [Option.bind_some] at hv
    rcases Nat.lt_or_ge g W.heap.size with h0 | h0
    · exact h0
    · rw [Array.getElem?_eq_none h0] at hv
      cases hv
theorem Laid.below {W W' : World} (h : Below W.heap.size W W') (hv : Laid W) : Laid W' := by
  obtain ⟨h1, ⟨t2, p2, h2⟩, ⟨t3, p3, h3⟩⟩ := hv
  exact ⟨var_below h h1, ⟨t2, p2, var_below h h2⟩, ⟨t3, p3, var_below h h3⟩⟩
noncomputable def itoaF (n : Int) : Option ByteArray := if -9223372036854775808 ≤ n ∧ n ≤ 9223372036854775807 then some ⟨(Lib.itoa n).toArray⟩ else none
theorem below_grow {w w' : World} (h : ∃ k os, w' = Go.Sort.grow (w.drewN k) os) : Below w.heap.size w w' := by
  obtain ⟨k, os, rfl⟩ := h
  refine ⟨rfl, rfl, rfl, ?_, fun j hj => ?_⟩
  · show w.heap.size ≤ (w.heap ++ os).size
    rw [Array.size_append]
    omega
  · show (w.heap ++ os)[j]? = w.heap[j]?
    exact Array.getElem?_append_left (by omega)
noncomputable def e56L (_ : Nat) : Entry := ⟨56, [.int .i64], [.str], fun y => itoaF y⟩
noncomputable def f56L (_ : Nat) (n : Int) : Option ByteArray := itoaF n
theorem ok56L {W0 : World} (hL : Laid W0) (n : Nat) : FnOK Tryd.prog W0 (e56L n) := by
  refine FnOK.of_calls Tryd.func56 (by kernel_rfl) (by kernel_rfl) ?_
  rintro own w i r xs hf hb _ ⟨x, rfl, hx⟩
  have hf : itoaF i = some r := hf
  unfold itoaF at hf
  split at hf
  · rename_i hi
    cases hf
    have hx : [x] = [Value.int .i64 i] := hx
    injection hx with hx
    subst hx
    exact (Tryd.strconv_Itoa i hi.1 hi.2 w (hL.below hb).tab).mono fun e w' ⟨he, hw⟩ => ⟨[_], he, below_grow hw, _, rfl, rfl⟩
  · cases hf
noncomputable def formatF (n b : Int) : Option ByteArray := if b = 10 then itoaF n else none
noncomputable def e57L (_ : Nat) : Entry := ⟨57, [.int .i64, .int .i64], [.str], fun y => formatF y.1 y.2⟩
noncomputable def f57L (_ : Nat) (n b : Int) : Option ByteArray := formatF n b
theorem ok57L {W0 : World} (hL : Laid W0) (n : Nat) : FnOK Tryd.prog W0 (e57L n) := by
  refine FnOK.of_calls Tryd.func57 (by kernel_rfl) (by kernel_rfl) ?_
  rintro own w ⟨i, b⟩ r xs hf hb _ ⟨x, _, rfl, hx, y, rfl, hy⟩
  have hf : formatF i b = some r := hf
  unfold formatF itoaF at hf
  split at hf
  · rename_i hb10
    split at hf
    · rename_i hi
      cases hf
      have hx : [x] = [Value.int .i64 i] := hx
      have hy : [y] = [Value.int .i64 b] := hy
      injection hx with hx
      injection hy with hy
      subst hx; subst hy; subst hb10
      exact (Tryd.strconv_FormatInt_10 i hi.1 hi.2 w (hL.below hb).tab).mono fun e w' ⟨he, hw⟩ => ⟨[_], he, below_grow hw, _, rfl, rfl⟩
    · cases hf
  · cases hf
/-- strconv.ParseInt of base 10, to 64 bits: the number, and whether there is an error. -/
noncomputable def parseF (s : ByteArray) (b z : Int) : Option (Int × Bool) :=
  if b = 10 ∧ z = 64 ∧ s.size ≤ 281474976710656 then
    match Lib.parseIntB 64 s.data.toList with
    | .ok v => some (v, false)
    | .range => some (Lib.intSat 64 s.data.toList, true)
    | _ => some (0, true)
  else none
noncomputable def e77L (_ : Nat) : Entry := ⟨77, [.str, .int .i64, .int .i64], [.int .i64, .ifc], fun y => parseF y.1 y.2.1 y.2.2⟩
noncomputable def f77L (_ : Nat) (s : ByteArray) (b z : Int) : Option (Int × Bool) := parseF s b z
theorem ok77L {W0 : World} (hL : Laid W0) (n : Nat) : FnOK Tryd.prog W0 (e77L n) := by
  refine FnOK.of_calls Tryd.func77 (by kernel_rfl) (by kernel_rfl) ?_
  rintro own w ⟨s, b, z⟩ r xs hf hb _ ⟨x, _, rfl, hx, y, _, rfl, hy, u, rfl, hu⟩
  replace hf : parseF s b z = some r := hf
  obtain ⟨_, ⟨t2, p2, h2⟩, ⟨t3, p3, h3⟩⟩ := hL.below hb
  unfold parseF at hf
  split at hf
  · rename_i hc
    obtain ⟨hb10, hz, hs⟩ := hc
    have hx : [x] = [Value.string s] := hx
    have hy : [y] = [Value.int .i64 b] := hy
    have hu : [u] = [Value.int .i64 z] := hu
    injection hx with hx
    injection hy with hy
    injection hu with hu
    subst hx; subst hy; subst hu; subst hb10; subst hz
    cases hp : Lib.parseIntB 64 s.data.toList
    · rename_i v
      rw [hp] at hf
      cases hf
      refine (Tryd.strconv_ParseInt_10_at64_ok s (by omega) v hp w).mono fun e w' ⟨he, hw⟩ => ⟨[_, _], he, ?_, _, _, rfl, rfl, _, rfl, _, rfl, .inl ⟨rfl, rfl⟩⟩
      rcases hw with rfl | ⟨t, rfl⟩
      · exact Below.refl _ _
      · exact Lib.bytesWorld_below w 5 t
    · rw [hp] at hf
      cases hf
      exact (Any.strconv_ParseInt_10_at64_syntax_var Tryd.laysC174 s hs hp t3 p3 w h3).mono fun e w' ⟨N, he, _, _, hw⟩ => ⟨[_, _], he, hw, _, _, rfl, rfl, _, rfl, _, rfl, .inr ⟨rfl, _, _, rfl⟩⟩
    · rw [hp] at hf
      cases hf
      exact (Any.strconv_ParseInt_10_at64_range_var Tryd.laysC174 s hs hp t2 p2 w h2).mono fun e w' ⟨N, he, _, _, hw⟩ => ⟨[_, _], he, hw, _, _, rfl, rfl, _, rfl, _, rfl, .inr ⟨rfl, _, _, rfl⟩⟩
  · cases hf
/-- strings.Index of one byte. -/
noncomputable def indexF (s t : ByteArray) : Option Int := match t.data.toList with
  | [c] => some (Lib.indexByte s.data.toList c)
  | _ => none
theorem one_byte {t : ByteArray} {c : UInt8} (h : t.data.toList = [c]) : t = ⟨#[c]⟩ := by
  obtain ⟨d⟩ := t
  have : d = #[c] := Array.toList_inj.1 h
  rw [this]
noncomputable def e69 (_ : Nat) : Entry := ⟨69, [.str, .str], [.int .i64], fun y => indexF y.1 y.2⟩
noncomputable def f69 (_ : Nat) (s t : ByteArray) : Option Int := indexF s t
theorem ok69 {W0 : World} (n : Nat) : FnOK Tryd.prog W0 (e69 n) := by
  refine FnOK.of_calls Tryd.func69 (by kernel_rfl) (by kernel_rfl) ?_
  rintro own w ⟨s, t⟩ r xs hf _ _ ⟨x, _, rfl, hx, y, rfl, hy⟩
  have hf : indexF s t = some r := hf
  unfold indexF at hf
  split at hf
  · rename_i c hc
    cases hf
    have hx : [x] = [Value.string s] := hx
    have hy : [y] = [Value.string t] := hy
    injection hx with hx
    injection hy with hy
    subst hx; subst hy
    rw [one_byte hc]
    refine (Tryd.stringslite_Index_one s c w).mono fun e w' ⟨he, hw⟩ => ⟨[_], he, by rw [hw]; exact Below.refl _ _, _, rfl, rfl⟩
  · cases hf
/-- strings.LastIndex of one byte. -/
noncomputable def lastF (s t : ByteArray) : Option Int := if s.size < 4611686018427387904 then match t.data.toList with
  | [c] => some (Lib.lastIndexByte s (c.toNat : Int))
  | _ => none
  else none
noncomputable def e62 (_ : Nat) : Entry := ⟨62, [.str, .str], [.int .i64], fun y => lastF y.1 y.2⟩
noncomputable def f62 (_ : Nat) (s t : ByteArray) : Option Int := lastF s t
theorem ok62 {W0 : World} (n : Nat) : FnOK Tryd.prog W0 (e62 n) := by
  refine FnOK.of_calls Tryd.func62 (by kernel_rfl) (by kernel_rfl) ?_
  rintro own w ⟨s, t⟩ r xs hf _ _ ⟨x, _, rfl, hx, y, rfl, hy⟩
  have hf : lastF s t = some r := hf
  unfold lastF at hf
  split at hf
  · rename_i hs
    split at hf
    · rename_i c hc
      cases hf
      have hx : [x] = [Value.string s] := hx
      have hy : [y] = [Value.string t] := hy
      injection hx with hx
      injection hy with hy
      subst hx; subst hy
      rw [one_byte hc]
      refine (Tryd.strings_LastIndex_one s ⟨#[c]⟩ rfl hs w).mono fun e w' ⟨he, hw⟩ => ⟨[_], he, by rw [hw]; exact Below.refl _ _, _, rfl, rfl⟩
    · cases hf
  · cases hf
end Go.Proofs.YthpcpofcadpijaaDoor
