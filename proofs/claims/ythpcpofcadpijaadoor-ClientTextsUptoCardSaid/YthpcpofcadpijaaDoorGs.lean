/- Go's library at texts, by its contracts: strings.Join, strings.Contains, strconv.FormatInt and Itoa of small numbers. -/
import Derived.Test.YthpcpofcadpijaaDoorRfU
import Derived.Test.YthpcpofcadpijaaDoorSh
namespace Go.Proofs.YthpcpofcadpijaaDoor
open Go.Rf Go.RowKit
theorem strs_cells {w : World} {own : Nat → Prop} : ∀ {l : List ByteArray} {cs : List Value}, Row (DR w own .str) l cs → cs = l.map Value.string
  | [], _, h => h
  | x :: l, _, ⟨a, b, e, h1, h2⟩ => by
    have h1 : a = [Value.string x] := h1
    rw [e, h1, strs_cells h2]
    rfl
/-- strings.Join of some texts. -/
noncomputable def joinF (xs : List ByteArray) (sep : ByteArray) : Option ByteArray :=
  if xs ≠ [] ∧ xs.length ≤ 140737488355328 ∧ (Lib.join (xs.map (·.data.toList)) sep.data.toList).length ≤ 140737488355328 then some ⟨(Lib.join (xs.map (·.data.toList)) sep.data.toList).toArray⟩ else none
noncomputable def e58 (_ : Nat) : Entry := ⟨58, [.sl 9 .str, .str], [.str], fun y => joinF y.1 y.2⟩
noncomputable def f58 (_ : Nat) (xs : List ByteArray) (sep : ByteArray) : Option ByteArray := joinF xs sep
theorem ok58 {W0 : World} (n : Nat) : FnOK Tryd.prog W0 (e58 n) := by
  refine FnOK.of_calls Tryd.func58 (by kernel_rfl) (by kernel_rfl) ?_
  rintro own w ⟨l, sep⟩ r xs hf _ _ ⟨x, _, rfl, hx, y, rfl, hy⟩
  have hf : joinF l sep = some r := hf
  unfold joinF at hf
  split at hf
  · rename_i hc
    obtain ⟨hne, hN, hlen⟩ := hc
    cases hf
    have hy : [y] = [Value.string sep] := hy
    injection hy with hy
    subst hy
    obtain ⟨a, c, e, hcap, hcell⟩ : ∃ a c, [x] = [Value.slice a l.length c] ∧ l.length ≤ c ∧ (l ≠ [] → ∃ b off css, a = some ⟨b, off, none⟩ ∧ ¬ own b ∧ b < w.heap.size ∧ Row (DR w own .str) l css ∧ Cells w b off css) := hx
    injection e with e
    subst e
    obtain ⟨b, off, css, rfl, _, hlt, hrow, hcs⟩ := hcell hne
    refine (Tryd.strings_Join b off c l sep w (fun j x hj => hcs j _ (by rw [strs_cells hrow, List.getElem?_map, hj]; rfl)) hlt hN hcap hlen).mono fun e w' ⟨he, hw⟩ => ⟨[_], he, hw, _, rfl, rfl⟩
  · cases hf
/-- strings.Contains of one byte. -/
noncomputable def containsF (s t : ByteArray) : Option Bool := match t.data.toList with
  | [c] => some (decide (0 ≤ Lib.indexByte s.data.toList c))
  | _ => none
noncomputable def e40 (_ : Nat) : Entry := ⟨40, [.str, .str], [.bool], fun y => containsF y.1 y.2⟩
noncomputable def f40 (_ : Nat) (s t : ByteArray) : Option Bool := containsF s t
theorem ok40 {W0 : World} (n : Nat) : FnOK Tryd.prog W0 (e40 n) := by
  refine FnOK.of_calls Tryd.func40 (by kernel_rfl) (by kernel_rfl) ?_
  rintro own w ⟨s, t⟩ r xs hf _ _ ⟨x, _, rfl, hx, y, rfl, hy⟩
  have hf : containsF s t = some r := hf
  unfold containsF at hf
  split at hf
  · rename_i c hc
    cases hf
    have hx : [x] = [Value.string s] := hx
    have hy : [y] = [Value.string t] := hy
    injection hx with hx
    injection hy with hy
    subst hx; subst hy
    have ht : t = ⟨#[c]⟩ := by
      obtain ⟨d⟩ := t
      have : d = #[c] := Array.toList_inj.1 hc
      rw [this]
    subst ht
    refine (Tryd.strings_Contains_one s c w).mono fun e w' ⟨he, hw⟩ => ⟨[_], he, by rw [hw]; exact Below.refl _ _, _, rfl, rfl⟩
  · cases hf
/-- strconv.Itoa and FormatInt of small numbers. -/
noncomputable def smallF (n : Int) : Option ByteArray := if 0 ≤ n ∧ n < 100 then some ⟨(Lib.decDigits n.toNat).toArray⟩ else none
noncomputable def e57 (_ : Nat) : Entry := ⟨57, [.int .i64, .int .i64], [.str], fun y => if y.2 = 10 then smallF y.1 else none⟩
noncomputable def f57 (_ : Nat) (n b : Int) : Option ByteArray := if b = 10 then smallF n else none
theorem ok57 {W0 : World} (n : Nat) : FnOK Tryd.prog W0 (e57 n) := by
  refine FnOK.of_calls Tryd.func57 (by kernel_rfl) (by kernel_rfl) ?_
  rintro own w ⟨i, b⟩ r xs hf _ _ ⟨x, _, rfl, hx, y, rfl, hy⟩
  have hf : (if b = 10 then smallF i else none) = some r := hf
  split at hf
  · rename_i hb
    subst hb
    have hf : smallF i = some r := hf
    unfold smallF at hf
    split at hf
    · rename_i hi
      cases hf
      have hx : [x] = [Value.int .i64 i] := hx
      have hy : [y] = [Value.int .i64 10] := hy
      injection hx with hx
      injection hy with hy
      subst hx; subst hy
      have h := Tryd.strconv_FormatInt_10_small i.toNat (by omega) w
      rw [show ((i.toNat : Nat) : Int) = i by omega] at h
      exact h.mono fun e w' ⟨he, hw⟩ => ⟨[_], he, by rw [hw]; exact Below.refl _ _, _, rfl, rfl⟩
    · cases hf
  · cases hf
noncomputable def e56 (_ : Nat) : Entry := ⟨56, [.int .i64], [.str], fun y => smallF y⟩
noncomputable def f56 (_ : Nat) (n : Int) : Option ByteArray := smallF n
theorem ok56 {W0 : World} (n : Nat) : FnOK Tryd.prog W0 (e56 n) := by
  refine FnOK.of_calls Tryd.func56 (by kernel_rfl) (by kernel_rfl) ?_
  rintro own w i r xs hf _ _ ⟨x, rfl, hx⟩
  have hf : smallF i = some r := hf
  unfold smallF at hf
  split at hf
  · rename_i hi
    cases hf
    have hx : [x] = [Value.int .i64 i] := hx
    injection hx with hx
    subst hx
    have h := Tryd.strconv_Itoa_small i.toNat (by omega) w
    rw [show ((i.toNat : Nat) : Int) = i by omega] at h
    exact h.mono fun e w' ⟨he, hw⟩ => ⟨[_], he, by rw [hw]; exact Below.refl _ _, _, rfl, rfl⟩
  · cases hf
end Go.Proofs.YthpcpofcadpijaaDoor
