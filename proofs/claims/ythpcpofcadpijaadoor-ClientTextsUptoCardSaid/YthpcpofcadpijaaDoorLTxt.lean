/- Texts as lists of bytes: cut, index, numbers told and read. -/
import Derived.Test.YthpcpofcadpijaaDoorGi
import Derived.Test.YthpcpofcadpijaaDoorLCheck
import Derived.Lib.ItoaLen
import Derived.Lib.AtoiAllCases
import Derived.Lib.ParseIntBTie
namespace Go.Proofs.YthpcpofcadpijaaDoor
open Go.Rf Go.Lib
abbrev Bytes := List UInt8
def bs (l : Bytes) : ByteArray := ⟨l.toArray⟩
theorem bs_of (s : ByteArray) : ∃ l, s = bs l := ⟨s.data.toList, by obtain ⟨⟨l⟩⟩ := s; rfl⟩
theorem bs_list (l : Bytes) : (bs l).data.toList = l := rfl
theorem bs_toList (l : Bytes) : (bs l).toList = l := by rw [toList_data]; rfl
theorem bs_size (l : Bytes) : (bs l).size = l.length := by rw [size_eq]; rfl
theorem bs_inj {a b : Bytes} (h : bs a = bs b) : a = b := by
  have := congrArg (fun s : ByteArray => s.data.toList) h
  exact this
theorem bs_append (a b : Bytes) : bs a ++ bs b = bs (a ++ b) := by
  apply ByteArray.ext
  simp [bs]
theorem bs_extract (l : Bytes) (i j : Nat) : (bs l).extract i j = bs ((l.drop i).take (j - i)) := by
  obtain ⟨k, hk⟩ := bs_of ((bs l).extract i j)
  have := extract_data (bs l) i j
  rw [hk, bs_list, bs_list] at this
  rw [hk, this]
theorem bs_empty : ByteArray.empty = bs [] := rfl
theorem bs_byte (l : Bytes) (i : Nat) : byteAt (bs l) ((i : Nat) : Int) = ((l.getD i 0).toNat : Int) := rfl
/-! ### cut -/
theorem split_byte (c : UInt8) : ∀ l : Bytes, c ∉ l ∨ ∃ a b, l = a ++ c :: b ∧ c ∉ a
  | [] => .inl (by simp)
  | x :: l => by
    by_cases h : x = c
    · exact .inr ⟨[], l, by rw [h]; rfl, by simp⟩
    · rcases split_byte c l with h1 | ⟨a, b, e, h1⟩
      · exact .inl (by simp [h1]; exact fun e => h e.symm)
      · exact .inr ⟨x :: a, b, by rw [e]; rfl, by simp [h1]; exact fun e => h e.symm⟩
theorem split_last (c : UInt8) : ∀ l : Bytes, c ∉ l ∨ ∃ a b, l = a ++ c :: b ∧ c ∉ b
  | [] => .inl (by simp)
  | x :: l => by
    rcases split_last c l with h1 | ⟨a, b, e, h1⟩
    · by_cases h : x = c
      · exact .inr ⟨[], l, by rw [h]; rfl, h1⟩
      · exact .inl (by simp [h1]; exact fun e => h e.symm)
    · exact .inr ⟨x :: a, b, by rw [e]; rfl, h1⟩
theorem index_none {c : UInt8} : ∀ {l : Bytes}, c ∉ l → indexByte l c = -1
  | [], _ => rfl
  | x :: l, h => by
    simp only [List.mem_cons, not_or] at h
    unfold indexByte
    rw [if_neg (by simpa using fun e => h.1 e.symm), index_none h.2]
    rfl
theorem index_some {c : UInt8} : ∀ {a b : Bytes}, c ∉ a → indexByte (a ++ c :: b) c = (a.length : Int)
  | [], b, _ => by
    show indexByte (c :: b) c = 0
    unfold indexByte
    rw [if_pos (by simp)]
  | x :: a, b, h => by
    simp only [List.mem_cons, not_or] at h
    have ih := index_some (b := b) h.2
    show indexByte (x :: (a ++ c :: b)) c = _
    unfold indexByte
    rw [if_neg (by simpa using fun e => h.1 e.symm), ih, if_neg (by first | (simp; done) | (simp; omega))]
    simp
theorem cut_no (n : Nat) {l : Bytes} {c : UInt8} (h : c ∉ l) : f45 n (bs l) (bs [c]) = some (bs l, bs [], false) := by
  have e : f69 n (bs l) (bs [c]) = some (-1) := by
    show indexF (bs l) (bs [c]) = some (-1)
    unfold indexF
    rw [bs_list, bs_list]
    show some (indexByte l c) = some (-1)
    rw [index_none h]
  rw [f45_eq, f61_eq, e]
  rfl
theorem cut_at (n : Nat) {a b : Bytes} {c : UInt8} (h : c ∉ a) (hl : (a ++ c :: b).length ≤ 281474976710656) : f45 n (bs (a ++ c :: b)) (bs [c]) = some (bs a, bs b, true) := by
  have e : f69 n (bs (a ++ c :: b)) (bs [c]) = some (a.length : Int) := by
    show indexF (bs (a ++ c :: b)) (bs [c]) = _
    unfold indexF
    rw [bs_list, bs_list]
    show some (indexByte (a ++ c :: b) c) = _
    rw [index_some h]
  have hlen : (a ++ c :: b).length = a.length + b.length + 1 := by simp; omega
  have w : IntKind.i64.wrap ((a.length : Int) + ((bs [c]).size : Int)) = ((a.length + 1 : Nat) : Int) := by
    rw [bs_size, wI (by simp; omega) (by simp; omega)]
    simp
  rw [f45_eq, f61_eq, e]
  simp only [Option.bind_some]
  rw [w, bs_size, decide_eq_true (show (a.length : Int) ≥ 0 by omega), decide_eq_true (by omega), decide_eq_true (by omega)]
  simp only [cond_true, Option.bind_some, bs_extract]
  have e1 : ((a ++ c :: b).drop 0).take ((a.length : Int).toNat - 0) = a := by simp
  have e2 : ((a ++ c :: b).drop ((a.length + 1 : Nat) : Int).toNat).take ((((a ++ c :: b).length : Nat) : Int).toNat - ((a.length + 1 : Nat) : Int).toNat) = b := by
    rw [show ((a.length + 1 : Nat) : Int).toNat = a.length + 1 from rfl, show (((a ++ c :: b).length : Nat) : Int).toNat = (a ++ c :: b).length from rfl, show a ++ c :: b = (a ++ [c]) ++ b by simp, List.drop_append_of_le_length (by simp)]
    simp
    exact List.take_of_length_le (by omega)
  rw [e1, e2]
theorem last_at {a b : Bytes} {c : UInt8} (h : c ∉ b) : lastIndexByte (bs (a ++ c :: b)) ((c.toNat : Nat) : Int) = (a.length : Int) := by
  have hb : ∀ i, ((bs (a ++ c :: b)).data[i]!) = (a ++ c :: b).getD i 0 := by
    intro i
    show (a ++ c :: b).toArray[i]! = _
    simp [List.getD]
    rfl
  have hlen : (a ++ c :: b).length = a.length + b.length + 1 := by simp; omega
  have heq : ∀ x : UInt8, ((x.toNat : Nat) : Int) = ((c.toNat : Nat) : Int) → x = c := fun x hx => UInt8.toNat_inj.1 (by omega)
  unfold lastIndexByte
  rcases lastIdx_spec (bs (a ++ c :: b)) ((c.toNat : Nat) : Int) (bs (a ++ c :: b)).size with ⟨_, h2⟩ | ⟨i, h1, h2, h3, h4⟩
  · exfalso
    refine h2 a.length (by rw [bs_size]; omega) ?_
    rw [hb]
    simp
  · rw [h2]
    rw [bs_size] at h1 h4
    rw [hb] at h3
    have h3 := heq _ h3
    have : ¬ a.length < i := fun hi => by
      have : (a ++ c :: b).getD i 0 = b.getD (i - a.length - 1) 0 := by
        simp only [List.getD]
        rw [List.getElem?_append_right (by omega), show i - a.length = (i - a.length - 1) + 1 by omega, List.getElem?_cons_succ]
        rfl
      rw [this] at h3
      apply h
      rw [← h3]
      have hlt : i - a.length - 1 < b.length := by omega
      simp [hlt]
    have : ¬ i < a.length := fun hi => by
      refine h4 a.length hi (by omega) ?_
      rw [hb]
      simp
    omega
theorem last_none {l : Bytes} {c : UInt8} (h : c ∉ l) : lastIndexByte (bs l) ((c.toNat : Nat) : Int) = -1 := by
  unfold lastIndexByte
  rcases lastIdx_spec (bs l) ((c.toNat : Nat) : Int) (bs l).size with ⟨h1, _⟩ | ⟨i, h1, h2, h3, _⟩
  · exact h1
  · exfalso
    rw [bs_size] at h1
    have hb : ((bs l).data[i]!) = l[i] := by
      show l.toArray[i]! = _
      simp [h1]
    rw [hb] at h3
    have : l[i] = c := UInt8.toNat_inj.1 (by omega)
    exact h (this ▸ List.getElem_mem h1)
/-! ### digits -/
def isDig (c : UInt8) : Prop := 48 ≤ c.toNat ∧ c.toNat ≤ 57
def val : Nat → Bytes → Nat
  | a, [] => a
  | a, c :: l => val (a * 10 + (c.toNat - 48)) l
theorem val_append : ∀ (a : Nat) (l1 l2 : Bytes), val a (l1 ++ l2) = val (val a l1) l2
  | _, [], _ => rfl
  | a, c :: l1, l2 => val_append _ l1 l2
theorem val_ge : ∀ (a : Nat) (l : Bytes), a ≤ val a l
  | _, [] => Nat.le_refl _
  | _, _ :: l => Nat.le_trans (by omega) (val_ge _ l)
theorem dig_nat {d : Nat} (h : d < 10) : (UInt8.ofNat (48 + d)).toNat = 48 + d := by
  rw [UInt8.toNat_ofNat']
  omega
theorem dec_digs (u : Nat) : ∀ c ∈ decDigits u, isDig c := by
  induction u using Nat.strongRecOn with
  | _ u ih =>
    rw [decDigits]
    split
    · rename_i h
      intro c hc
      rw [List.mem_singleton] at hc
      subst hc
      rw [isDig, dig_nat h]
      omega
    · rename_i h
      intro c hc
      rcases List.mem_append.1 hc with hc | hc
      · exact ih (u / 10) (by omega) c hc
      · rw [List.mem_singleton] at hc
        subst hc
        rw [isDig, dig_nat (by omega)]
        omega
theorem dec_val (u : Nat) : val 0 (decDigits u) = u := by
  induction u using Nat.strongRecOn with
  | _ u ih =>
    rw [decDigits]
    split
    · rename_i h
      show 0 * 10 + ((UInt8.ofNat (48 + u)).toNat - 48) = u
      rw [dig_nat h]
      omega
    · rename_i h
      rw [val_append, ih (u / 10) (by omega)]
      show u / 10 * 10 + ((UInt8.ofNat (48 + u % 10)).toNat - 48) = u
      rw [dig_nat (by omega)]
      omega
theorem dec_ne (u : Nat) : decDigits u ≠ [] := fun h => by
  have := decDigits_length u
  rw [h] at this
  have := nDigits_pos u
  simp at *
  omega
/-- No zero stands ahead. -/
theorem dec_first (u : Nat) : ∀ (l1 l2 : Bytes), decDigits u = l1 ++ l2 → l1 ≠ [] → l2 ≠ [] → 1 ≤ val 0 l1 := by
  induction u using Nat.strongRecOn with
  | _ u ih =>
    intro l1 l2 h h1 h2
    rw [decDigits] at h
    split at h
    · exfalso
      cases l1 with
      | nil => exact h1 rfl
      | cons x l1 =>
        simp only [List.cons_append, List.cons.injEq] at h
        have := h.2
        cases l1 with
        | nil => exact h2 this.symm
        | cons _ _ => simp at this
    · rename_i hu
      obtain ⟨l2', y, rfl⟩ : ∃ l2' y, l2 = l2' ++ [y] := ⟨l2.dropLast, l2.getLast h2, (List.dropLast_concat_getLast h2).symm⟩
      rw [← List.append_assoc] at h
      have := List.append_inj_left' h rfl
      cases l2' with
      | nil =>
        rw [List.append_nil] at this
        rw [← this, dec_val]
        omega
      | cons z l2' => exact ih (u / 10) (by omega) l1 (z :: l2') this h1 (by simp)
theorem parse_digs : ∀ (l : Bytes) (a : Nat), (∀ c ∈ l, isDig c) → val a l ≤ 9223372036854775807 → parseUint10 a l = .ok (val a l)
  | [], _, _, _ => rfl
  | c :: l, a, h, hv => by
    have hc := h c (by simp)
    have hge := val_ge (a * 10 + (c.toNat - 48)) l
    have hv' : val (a * 10 + (c.toNat - 48)) l ≤ 9223372036854775807 := hv
    rw [parseUint10, if_pos (show 48 ≤ c.toNat ∧ c.toNat ≤ 57 from hc), if_neg (by omega), if_neg (by omega)]
    exact parse_digs l _ (fun x hx => h x (by simp [hx])) hv'
theorem parse_dec {u : Nat} (hu : u ≤ 9223372036854775807) : parseIntB 64 (decDigits u) = .ok (u : Int) := by
  rw [parseIntB_64]
  obtain ⟨c, r, hcr⟩ : ∃ c r, decDigits u = c :: r := by
    cases h : decDigits u with
    | nil => exact (dec_ne u h).elim
    | cons c r => exact ⟨c, r, rfl⟩
  have hd := dec_digs u
  have hv := dec_val u
  rw [hcr] at hd hv ⊢
  have hc := hd c (by simp)
  unfold isDig at hc
  rw [atoiAll_plain c r (by omega) (by omega)]
  unfold parseMag
  rw [if_neg (by simp), parse_digs _ _ hd (by rw [hv]; exact hu), hv]
  show (if 9223372036854775808 ≤ u then NumEnd.range else .ok (u : Int)) = _
  rw [if_neg (by omega)]
/-! ### numbers told -/
theorem digit_byte {d : Int} (h0 : 0 ≤ d) (h1 : d < 10) : mkBytes [IntKind.u8.wrap (IntKind.i64.wrap (48 + d))] = bs [UInt8.ofNat (48 + d.toNat)] := by
  obtain ⟨k, rfl⟩ := Int.eq_ofNat_of_zero_le h0
  have hk : k < 10 := by omega
  have : ∀ k : Fin 10, (mkBytes [IntKind.u8.wrap (IntKind.i64.wrap (48 + ((k.val : Nat) : Int)))]).data = (bs [UInt8.ofNat (48 + k.val)]).data := by decide
  exact ByteArray.ext (this ⟨k, hk⟩)
theorem number_eq : ∀ (u : Nat), u ≤ 9223372036854775807 → ∀ k, nDigits u ≤ k → f60 k (u : Int) = some (bs (decDigits u)) := by
  intro u
  induction u using Nat.strongRecOn with
  | _ u ih =>
    intro hu k hk
    have hp := nDigits_pos u
    obtain ⟨k, rfl⟩ : ∃ j, k = j + 1 := ⟨k - 1, by omega⟩
    rw [f60_eq, decide_eq_true (show (u : Int) ≥ 0 by omega)]
    simp only [cond_true]
    by_cases h : u < 10
    · rw [decide_eq_true (show (u : Int) < 10 by omega), decDigits, dif_pos h, digit_byte (by omega) (by omega)]
      rfl
    · rw [decide_eq_false (show ¬ (u : Int) < 10 by omega)]
      simp only [cond_false]
      rw [f60_7_eq, decide_eq_true (show (u : Int) ≥ 10 by omega), both_self]
      simp only [cond_true]
      have e1 : IntKind.i64.wrap ((u : Int).tdiv 10) = ((u / 10 : Nat) : Int) := by
        rw [show (u : Int).tdiv 10 = ((u / 10 : Nat) : Int) by rw [Int.tdiv_eq_ediv_of_nonneg (by omega)]; rfl]
        exact wI (by omega) (by omega)
      have e2 : (u : Int).tmod 10 = ((u % 10 : Nat) : Int) := by rw [Int.tmod_eq_emod_of_nonneg (by omega)]; rfl
      rw [e1, e2, ih (u / 10) (by omega) (by omega) k (by rw [nDigits_big h] at hk; omega), digit_byte (by omega) (by omega)]
      simp only [Option.bind_some]
      have hl := decDigits_length (u / 10)
      have hn := nDigits_le20 (u / 10) (by omega)
      rw [bs_size, bs_size, decide_eq_false (by simp only [Int.ofNat_eq_natCast, List.length_singleton]; omega)]
      simp only [cond_false]
      rw [show decDigits u = decDigits (u / 10) ++ [UInt8.ofNat (48 + u % 10)] by rw [decDigits, dif_neg h], ← bs_append]
      rfl
theorem dec_len {u : Nat} (h : u < 18446744073709551616) : (decDigits u).length ≤ 20 := by rw [decDigits_length]; exact nDigits_le20 u h
theorem number_go {n : Nat} {u : Nat} (hu : u ≤ 9223372036854775807) : f56L n (u : Int) = some (bs (decDigits u)) ∧ f57L n (u : Int) 10 = some (bs (decDigits u)) := by
  have e : itoaF (u : Int) = some (bs (decDigits u)) := by
    unfold itoaF
    rw [if_pos ⟨by omega, by omega⟩, itoa_nonneg]
    rfl
  refine ⟨e, ?_⟩
  show formatF (u : Int) 10 = _
  unfold formatF
  rw [if_pos rfl]
  exact e
theorem digits_loop (n : Nat) : ∀ (u : Nat), u ≤ 65535 → ∀ (m : Nat) (t : Bytes), nDigits u ≤ m → t.length + nDigits u ≤ 100 → f74_4 n m (u : Int) (bs t) = some (bs (decDigits u ++ t)) := by
  intro u
  induction u using Nat.strongRecOn with
  | _ u ih =>
    intro hu m t hm ht
    have hp := nDigits_pos u
    obtain ⟨m, rfl⟩ : ∃ j, m = j + 1 := ⟨m - 1, by omega⟩
    rw [f74_4_eq]
    by_cases h : u < 10
    · rw [decide_eq_false (show ¬ (u : Int) ≥ 10 by omega), cond_false, digit_byte (by omega) (by omega), bs_size, bs_size, decide_eq_false (by simp only [Int.ofNat_eq_natCast, List.length_singleton]; omega), cond_false, bs_append, decDigits, dif_pos h]
      rfl
    · have e1 : IntKind.i64.wrap ((u : Int).tdiv 10) = ((u / 10 : Nat) : Int) := by
        rw [show (u : Int).tdiv 10 = ((u / 10 : Nat) : Int) by rw [Int.tdiv_eq_ediv_of_nonneg (by omega)]; rfl]
        exact wI (by omega) (by omega)
      have e2 : (u : Int).tmod 10 = ((u % 10 : Nat) : Int) := by rw [Int.tmod_eq_emod_of_nonneg (by omega)]; rfl
      rw [decide_eq_true (show (u : Int) ≥ 10 by omega), cond_true, e1, e2, digit_byte (by omega) (by omega), bs_size, bs_size, decide_eq_false (by simp only [Int.ofNat_eq_natCast, List.length_singleton]; omega), cond_false, bs_append]
      rw [nDigits_big h] at hm ht
      rw [ih (u / 10) (by omega) (by omega) m _ (by omega) (by rw [List.length_append, List.length_singleton]; omega)]
      rw [show decDigits u = decDigits (u / 10) ++ [UInt8.ofNat (48 + u % 10)] by rw [decDigits, dif_neg h], List.append_assoc]
      rfl
open Go.Rf Go.Lib
structure Fm where
  w : Bytes
  k : Bool
  s : Bool
  m : Bool
  least : Int
  most : Int
def fm (op : Int) : Fm :=
  if op = 1 then ⟨[99, 97, 108, 108], true, false, false, 0, 0⟩
  else if op = 2 then ⟨[115, 116, 97, 114, 116], true, true, false, 0, 0⟩
  else if op = 3 then ⟨[97, 119, 97, 105, 116], false, true, false, 0, 0⟩
  else if op = 4 then ⟨[102, 111, 114, 103, 101, 116], true, false, false, 0, 0⟩
  else if op = 5 then ⟨[99, 97, 110, 99, 101, 108], false, false, true, 1, 1024⟩
  else if op = 6 then ⟨[111, 112, 101, 110], false, false, true, 0, 255⟩
  else if op = 7 then ⟨[115, 104, 117, 116], false, false, true, 0, 255⟩
  else if op = 8 then ⟨[115, 108, 101, 101, 112], false, false, true, 0, 4611686018427387904⟩
  else if op = 9 then ⟨[116, 111, 107, 101, 110], false, false, true, 0, 1024⟩
  else ⟨[], false, false, false, 0, 0⟩
theorem op_cases (op : Int) : (op = 1 ∨ op = 2 ∨ op = 3 ∨ op = 4 ∨ op = 5 ∨ op = 6 ∨ op = 7 ∨ op = 8 ∨ op = 9) ∨ fm op = ⟨[], false, false, false, 0, 0⟩ := by
  by_cases h : 1 ≤ op ∧ op ≤ 9
  · exact .inl (by omega)
  · refine .inr ?_
    unfold fm
    rw [if_neg (by omega), if_neg (by omega), if_neg (by omega), if_neg (by omega), if_neg (by omega), if_neg (by omega), if_neg (by omega), if_neg (by omega), if_neg (by omega)]
theorem form_go (n : Nat) (op : Int) : f29 n op = some (bs (fm op).w, (fm op).k, (fm op).s, (fm op).m, (fm op).most) := by
  rw [f29_eq]
  by_cases h : 1 ≤ op ∧ op ≤ 9
  · rcases (by omega : op = 1 ∨ op = 2 ∨ op = 3 ∨ op = 4 ∨ op = 5 ∨ op = 6 ∨ op = 7 ∨ op = 8 ∨ op = 9) with e | e | e | e | e | e | e | e | e <;> subst e <;> rfl
  · have e : ∀ {j : Int}, op ≠ j → (op == j) = false := fun h => beq_false_of_ne h
    rw [e (by omega), e (by omega), e (by omega), e (by omega), e (by omega), e (by omega), e (by omega), e (by omega), e (by omega)]
    rw [(op_cases op).resolve_left (by omega)]
    rfl
theorem form_ref (n : Nat) (op : Int) : f48 n op = some (bs (fm op).w, (fm op).k, (fm op).s, (fm op).m, (fm op).least, (fm op).most) := by
  rw [f48_eq]
  by_cases h : 1 ≤ op ∧ op ≤ 9
  · rcases (by omega : op = 1 ∨ op = 2 ∨ op = 3 ∨ op = 4 ∨ op = 5 ∨ op = 6 ∨ op = 7 ∨ op = 8 ∨ op = 9) with e | e | e | e | e | e | e | e | e <;> subst e <;> rfl
  · have e : ∀ {j : Int}, op ≠ j → (op == j) = false := fun h => beq_false_of_ne h
    rw [e (by omega), e (by omega), e (by omega), e (by omega), e (by omega), e (by omega), e (by omega), e (by omega), e (by omega)]
    rw [(op_cases op).resolve_left (by omega)]
    rfl
/-! ### what may be -/
def KeyOk (d : Do) : Prop := if (fm d.1).k = true then (d.2.1.2.size : Int) ≤ 64 else d.2.1 = (0, ByteArray.empty)
def SlotOk (d : Do) : Prop := if (fm d.1).s = true then 0 ≤ d.2.2.2 ∧ d.2.2.2 < 16 else d.2.2.2 = 0
def NumOk (d : Do) : Prop := if (fm d.1).m = true then (fm d.1).least ≤ d.2.2.1 ∧ d.2.2.1 ≤ (fm d.1).most else d.2.2.1 = 0
structure MayD (d : Do) : Prop where
  w : (fm d.1).w ≠ []
  k : KeyOk d
  s : SlotOk d
  m : NumOk d
open Classical in
noncomputable def mayB (d : Do) : Bool := decide (MayD d)
open Classical in
theorem mayB_of {d : Do} {b : Bool} (h : b = true ↔ MayD d) : some b = some (mayB d) := by
  unfold mayB
  cases b with
  | true => rw [decide_eq_true (h.1 rfl)]
  | false => rw [decide_eq_false (fun h' => by cases h.2 h')]
open Classical in
theorem mayB_iff {d : Do} : mayB d = true ↔ MayD d := by unfold mayB; exact decide_eq_true_iff
theorem num_ref (n p : Nat) (d : Do) : ∃ b, f32_17 n (p + 1) d (bs (fm d.1).w, (fm d.1).k, (fm d.1).s, (fm d.1).m, (fm d.1).least, (fm d.1).most) = some b ∧ (b = true ↔ NumOk d) := by
  rw [f32_17_eq]
  unfold NumOk
  cases hm : (fm d.1).m with
  | true =>
    simp only [cond_true, Bool.not_true, cond_false, if_true]
    by_cases h1 : d.2.2.1 ≥ (fm d.1).least
    · by_cases h2 : d.2.2.1 ≤ (fm d.1).most
      · rw [decide_eq_true h1, decide_eq_true h2]; exact ⟨true, rfl, ⟨fun _ => ⟨h1, h2⟩, fun _ => rfl⟩⟩
      · rw [decide_eq_true h1, decide_eq_false h2]; exact ⟨false, rfl, ⟨(fun h => by cases h), fun h => (h2 h.2).elim⟩⟩
    · rw [decide_eq_false h1]; exact ⟨false, rfl, ⟨(fun h => by cases h), fun h => (h1 h.1).elim⟩⟩
  | false =>
    simp only [cond_false, Bool.not_false, cond_true, Bool.false_eq_true, if_false]
    exact ⟨_, rfl, by simp⟩
theorem slot_ref (n p : Nat) (d : Do) : ∃ b, f32_13 n (p + 1 + 1) d (bs (fm d.1).w, (fm d.1).k, (fm d.1).s, (fm d.1).m, (fm d.1).least, (fm d.1).most) = some b ∧ (b = true ↔ SlotOk d ∧ NumOk d) := by
  obtain ⟨b, hb, hn⟩ := num_ref n p d
  rw [f32_13_eq]
  simp only [hb]
  unfold SlotOk
  cases hm : (fm d.1).s with
  | true =>
    simp only [cond_true, Bool.not_true, cond_false, if_true]
    by_cases h1 : d.2.2.2 < 0
    · rw [decide_eq_true h1]; exact ⟨false, rfl, ⟨(fun h => by cases h), fun h => by omega⟩⟩
    · by_cases h2 : d.2.2.2 ≥ 16
      · rw [decide_eq_false h1, decide_eq_true h2]; exact ⟨false, rfl, ⟨(fun h => by cases h), fun h => by omega⟩⟩
      · rw [decide_eq_false h1, decide_eq_false h2]
        exact ⟨b, rfl, ⟨fun h => ⟨⟨by omega, by omega⟩, hn.1 h⟩, fun h => hn.2 h.2⟩⟩
  | false =>
    simp only [cond_false, Bool.not_false, cond_true, Bool.false_eq_true, if_false]
    by_cases h1 : d.2.2.2 = 0
    · rw [h1]
      exact ⟨b, rfl, ⟨fun h => ⟨rfl, hn.1 h⟩, fun h => hn.2 h.2⟩⟩
    · rw [show (d.2.2.2 != 0) = true by simpa using h1]; exact ⟨false, rfl, ⟨(fun h => by cases h), fun h => (h1 h.1).elim⟩⟩
theorem eqBA (a b : ByteArray) : (a == b) = decide (a = b) := eqB a b
theorem may_ref {n : Nat} (hn : 2 ≤ n) (d : Do) : f32 n d = some (mayB d) := by
  obtain ⟨p, rfl⟩ : ∃ p, n = p + 1 + 1 := ⟨n - 2, by omega⟩
  obtain ⟨b, hb, hsn⟩ := slot_ref (p + 1 + 1) p d
  suffices h : ∃ b, f32 (p + 1 + 1) d = some b ∧ (b = true ↔ MayD d) by
    obtain ⟨b, h1, h2⟩ := h
    rw [h1, mayB_of h2]
  rw [f32_eq, form_ref]
  simp only [Option.bind_some, hb]
  rw [bs_toList, empty_toList]
  by_cases h0 : (fm d.1).w = []
  · rw [h0]; exact ⟨false, rfl, ⟨(fun h => by cases h), fun h => (h.w h0).elim⟩⟩
  rw [show ((fm d.1).w == []) = false by cases hw : (fm d.1).w with | nil => exact (h0 hw).elim | cons _ _ => rfl]
  simp only [cond_false]
  cases hk : (fm d.1).k with
  | true =>
    have hK : KeyOk d ↔ (d.2.1.2.size : Int) ≤ 64 := by unfold KeyOk; rw [if_pos hk]
    simp only [cond_true, Bool.not_true, cond_false]
    by_cases h1 : (d.2.1.2.size : Int) > 64
    · rw [decide_eq_true h1]; exact ⟨false, rfl, ⟨(fun h => by cases h), fun h => by have := hK.1 h.k; omega⟩⟩
    · rw [decide_eq_false h1]
      exact ⟨b, rfl, ⟨fun h => ⟨h0, hK.2 (by omega), (hsn.1 h).1, (hsn.1 h).2⟩, fun h => hsn.2 ⟨h.s, h.m⟩⟩⟩
  | false =>
    have hK : KeyOk d ↔ d.2.1 = (0, ByteArray.empty) := by unfold KeyOk; rw [if_neg (by rw [hk]; simp)]
    simp only [cond_false, Bool.not_false, cond_true]
    have hz : (d.2.1.1 == 0 && d.2.1.2 == ByteArray.empty) = decide (d.2.1 = (0, ByteArray.empty)) := by
      rw [eqBA]
      by_cases h1 : d.2.1 = (0, ByteArray.empty)
      · rw [decide_eq_true h1, h1]
        simp
      · rw [decide_eq_false h1]
        by_cases h2 : d.2.1.1 = 0
        · have : d.2.1.2 ≠ ByteArray.empty := fun h => h1 (Prod.ext h2 h)
          rw [decide_eq_false this]; simp
        · rw [beq_false_of_ne h2]; rfl
    rw [hz]
    by_cases h1 : d.2.1 = (0, ByteArray.empty)
    · rw [decide_eq_true h1]
      exact ⟨b, rfl, ⟨fun h => ⟨h0, hK.2 h1, (hsn.1 h).1, (hsn.1 h).2⟩, fun h => hsn.2 ⟨h.s, h.m⟩⟩⟩
    · rw [decide_eq_false h1]; exact ⟨false, rfl, ⟨(fun h => by cases h), fun h => (h1 (hK.1 h.k)).elim⟩⟩
theorem may_go {n : Nat} (hn : 2 ≤ n) (d : Do) : f39 n d = some (mayB d) := by
  obtain ⟨p, rfl⟩ : ∃ p, n = p + 2 := ⟨n - 2, by omega⟩
  obtain ⟨r, h1, h2⟩ := check_same p d
  rw [may_ref (by omega)] at h2
  rw [h1, h2]
/-! ### lines -/
def keyL (k : Key) : Bytes := decDigits k.1.toNat ++ 58 :: k.2.data.toList
def lineL (d : Do) : Bytes := (fm d.1).w ++ ((if (fm d.1).k = true then 32 :: keyL d.2.1 else []) ++ ((if (fm d.1).s = true then 32 :: decDigits d.2.2.2.toNat else []) ++ (if (fm d.1).m = true then 32 :: decDigits d.2.2.1.toNat else [])))
/-- A key's space is a number of 16 bits. -/
def U16 (d : Do) : Prop := 0 ≤ d.2.1.1 ∧ d.2.1.1 ≤ 65535
theorem bs_data (s : ByteArray) : s = bs s.data.toList := by obtain ⟨⟨l⟩⟩ := s; rfl
theorem small {a : Int} (h : a ≤ 1000000) : decide (a > Int.ofNat (9223372036854775807 : Nat)) = false := decide_eq_false (by simp only [Int.ofNat_eq_natCast]; omega)
theorem keyL_len {k : Key} (h0 : 0 ≤ k.1) (h1 : k.1 ≤ 65535) (hs : (k.2.size : Int) ≤ 64) : (keyL k).length ≤ 90 ∧ (decDigits k.1.toNat).length ≤ 20 := by
  have h2 : (decDigits k.1.toNat).length ≤ 20 := dec_len (by omega)
  refine ⟨?_, h2⟩
  unfold keyL
  rw [List.length_append, List.length_cons, ← size_eq]
  omega
theorem key_go {n : Nat} {k : Key} (h0 : 0 ≤ k.1) (h1 : k.1 ≤ 65535) (hs : (k.2.size : Int) ≤ 64) : f55L n k = some (bs (keyL k), 0) := by
  obtain ⟨_, h2⟩ := keyL_len h0 h1 hs
  rw [f55L_eq, size52, if_neg (by omega)]
  simp only [Option.bind_some, bne_self_eq_false, cond_false]
  obtain ⟨u, hu⟩ := Int.eq_ofNat_of_zero_le h0
  rw [hu] at h2 ⊢
  rw [wI (by omega) (by omega), (number_go (n := n) (u := u) (by omega)).1]
  simp only [Option.bind_some]
  have e : bs (decDigits u) ++ s55Lx0 = bs (decDigits u ++ [58]) := bs_append _ [58]
  have h2 : (decDigits u).length ≤ 20 := h2
  rw [bs_size, small (by omega), cond_false, e, bs_size, small (by simp; omega), cond_false, bs_data k.2, bs_append]
  unfold keyL
  rw [hu]
  simp
theorem key_ref {n : Nat} (hn : 100 ≤ n) {k : Key} (h0 : 0 ≤ k.1) (h1 : k.1 ≤ 65535) (hs : (k.2.size : Int) ≤ 64) : f59 n k = some (bs (keyL k), true) := by
  obtain ⟨_, h2⟩ := keyL_len h0 h1 hs
  rw [f59_eq, decide_eq_false (by omega)]
  simp only [cond_false]
  obtain ⟨u, hu⟩ := Int.eq_ofNat_of_zero_le h0
  rw [hu] at h2 ⊢
  have hd : f74 n (u : Int) = some (bs (decDigits u)) := by
    have := digits_loop n u (by omega) n [] (by have := nDigits_le20 u (by omega); omega) (by have := nDigits_le20 u (by omega); simp; omega)
    rw [List.append_nil] at this
    rw [f74_eq]
    exact this
  rw [wI (by omega) (by omega), hd]
  simp only [Option.bind_some]
  have e : bs (decDigits u) ++ s59x0 = bs (decDigits u ++ [58]) := bs_append _ [58]
  have h2 : (decDigits u).length ≤ 20 := h2
  rw [bs_size, small (by omega), cond_false, e, bs_size, small (by simp; omega), cond_false, bs_data k.2, bs_append]
  unfold keyL
  rw [hu]
  simp
theorem join_of {n : Nat} {xs : List Bytes} (h : xs ≠ []) (hx : xs.length ≤ 10) (hl : (Lib.join xs [32]).length ≤ 1000) : f58 n (xs.map bs) s42Lx0 = some (bs (Lib.join xs [32])) := by
  have e : (xs.map bs).map (·.data.toList) = xs := by
    rw [List.map_map]
    show xs.map (fun l => (bs l).data.toList) = xs
    simp [bs_list]
  show joinF (xs.map bs) s42Lx0 = _
  unfold joinF
  rw [e, show s42Lx0.data.toList = [32] from rfl, if_pos ⟨by simpa using h, by rw [List.length_map]; omega, by omega⟩]
  rfl
theorem fm_len (op : Int) : (fm op).w.length ≤ 6 := by
  rcases op_cases op with h | h
  · rcases h with e | e | e | e | e | e | e | e | e <;> subst e <;> decide
  · rw [h]; decide
open Go.Rf Go.Lib
theorem fm_bounds (op : Int) : 0 ≤ (fm op).least ∧ (fm op).most ≤ 4611686018427387904 := by
  rcases op_cases op with h | h
  · rcases h with e | e | e | e | e | e | e | e | e <;> subst e <;> decide
  · rw [h]; decide
/-- What is known of the parts of a line. -/
structure Parts (d : Do) : Prop where
  k : (fm d.1).k = true → 0 ≤ d.2.1.1 ∧ d.2.1.1 ≤ 65535 ∧ (d.2.1.2.size : Int) ≤ 64
  s : (fm d.1).s = true → ∃ u : Nat, d.2.2.2 = (u : Int) ∧ u < 16
  m : (fm d.1).m = true → ∃ u : Nat, d.2.2.1 = (u : Int) ∧ u ≤ 4611686018427387904
theorem parts_of {d : Do} (h : MayD d) (hu : U16 d) : Parts d := by
  refine ⟨fun hk => ?_, fun hs => ?_, fun hm => ?_⟩
  · have := h.k
    unfold KeyOk at this
    rw [if_pos hk] at this
    exact ⟨hu.1, hu.2, this⟩
  · have := h.s
    unfold SlotOk at this
    rw [if_pos hs] at this
    obtain ⟨u, hu⟩ := Int.eq_ofNat_of_zero_le this.1
    exact ⟨u, hu, by omega⟩
  · have := h.m
    unfold NumOk at this
    rw [if_pos hm] at this
    obtain ⟨h1, h2⟩ := fm_bounds d.1
    obtain ⟨u, hu⟩ := Int.eq_ofNat_of_zero_le (show 0 ≤ d.2.2.1 by omega)
    exact ⟨u, hu, by omega⟩
theorem dec20 {u : Nat} (h : u ≤ 4611686018427387904) : (decDigits u).length ≤ 20 := dec_len (by omega)
theorem line_len {d : Do} (h : Parts d) : (lineL d).length ≤ 200 := by
  have h0 := fm_len d.1
  unfold lineL
  rw [List.length_append, List.length_append, List.length_append]
  have h1 : (if (fm d.1).k = true then 32 :: keyL d.2.1 else []).length ≤ 91 := by
    split
    · rename_i hk
      obtain ⟨a, b, c⟩ := h.k hk
      have := (keyL_len a b c).1
      rw [List.length_cons]
      omega
    · simp
  have h2 : (if (fm d.1).s = true then 32 :: decDigits d.2.2.2.toNat else []).length ≤ 21 := by
    split
    · rename_i hs
      obtain ⟨u, hu, hl⟩ := h.s hs
      rw [hu, List.length_cons]
      have : (decDigits u).length ≤ 20 := dec20 (by omega)
      show (decDigits u).length + 1 ≤ 21
      omega
    · simp
  have h3 : (if (fm d.1).m = true then 32 :: decDigits d.2.2.1.toNat else []).length ≤ 21 := by
    split
    · rename_i hm
      obtain ⟨u, hu, hl⟩ := h.m hm
      rw [hu, List.length_cons]
      have : (decDigits u).length ≤ 20 := dec20 (by omega)
      show (decDigits u).length + 1 ≤ 21
      omega
    · simp
  omega
theorem line_go (n : Nat) {d : Do} (h : Parts d) : f42L n d = some (bs (lineL d)) := by
  have hlen := line_len h
  have jn : ∀ xs : List Bytes, xs ≠ [] → xs.length ≤ 10 → Lib.join xs [32] = lineL d → f58 n (xs.map bs) s42Lx0 = some (bs (lineL d)) := by
    intro xs h1 h2 h3
    rw [← h3]
    exact join_of h1 h2 (by rw [h3]; omega)
  rw [f42L_eq, form_go]
  simp only [Option.bind_some]
  cases hk : (fm d.1).k with
  | true =>
    obtain ⟨k1, k2, k3⟩ := h.k hk
    simp only [cond_true]
    rw [key_go k1 k2 k3]
    simp only [Option.bind_some]
    cases hs : (fm d.1).s with
    | true =>
      obtain ⟨u, hu, hlu⟩ := h.s hs
      simp only [cond_true]
      rw [hu, (number_go (by omega)).1]
      simp only [Option.bind_some]
      cases hm : (fm d.1).m with
      | true =>
        obtain ⟨v, hv, hlv⟩ := h.m hm
        simp only [cond_true]
        rw [hv, (number_go (by omega)).2]
        simp only [Option.bind_some]
        have e := jn [(fm d.1).w, keyL d.2.1, decDigits u, decDigits v] (by simp) (by simp) (by simp [lineL, hk, hs, hm, hu, hv, Lib.join])
        simp only [List.map_cons, List.map_nil] at e
        rw [e]
        rfl
      | false =>
        simp only [cond_false]
        have e := jn [(fm d.1).w, keyL d.2.1, decDigits u] (by simp) (by simp) (by simp [lineL, hk, hs, hm, hu, Lib.join])
        simp only [List.map_cons, List.map_nil] at e
        rw [e]
        rfl
    | false =>
      simp only [cond_false]
      cases hm : (fm d.1).m with
      | true =>
        obtain ⟨v, hv, hlv⟩ := h.m hm
        simp only [cond_true]
        rw [hv, (number_go (by omega)).2]
        simp only [Option.bind_some]
        have e := jn [(fm d.1).w, keyL d.2.1, decDigits v] (by simp) (by simp) (by simp [lineL, hk, hs, hm, hv, Lib.join])
        simp only [List.map_cons, List.map_nil] at e
        rw [e]
        rfl
      | false =>
        simp only [cond_false]
        have e := jn [(fm d.1).w, keyL d.2.1] (by simp) (by simp) (by simp [lineL, hk, hs, hm, Lib.join])
        simp only [List.map_cons, List.map_nil] at e
        rw [e]
        rfl
  | false =>
    simp only [cond_false]
    cases hs : (fm d.1).s with
    | true =>
      obtain ⟨u, hu, hlu⟩ := h.s hs
      simp only [cond_true]
      rw [hu, (number_go (by omega)).1]
      simp only [Option.bind_some]
      cases hm : (fm d.1).m with
      | true =>
        obtain ⟨v, hv, hlv⟩ := h.m hm
        simp only [cond_true]
        rw [hv, (number_go (by omega)).2]
        simp only [Option.bind_some]
        have e := jn [(fm d.1).w, decDigits u, decDigits v] (by simp) (by simp) (by simp [lineL, hk, hs, hm, hu, hv, Lib.join])
        simp only [List.map_cons, List.map_nil] at e
        rw [e]
        rfl
      | false =>
        simp only [cond_false]
        have e := jn [(fm d.1).w, decDigits u] (by simp) (by simp) (by simp [lineL, hk, hs, hm, hu, Lib.join])
        simp only [List.map_cons, List.map_nil] at e
        rw [e]
        rfl
    | false =>
      simp only [cond_false]
      cases hm : (fm d.1).m with
      | true =>
        obtain ⟨v, hv, hlv⟩ := h.m hm
        simp only [cond_true]
        rw [hv, (number_go (by omega)).2]
        simp only [Option.bind_some]
        have e := jn [(fm d.1).w, decDigits v] (by simp) (by simp) (by simp [lineL, hk, hs, hm, hv, Lib.join])
        simp only [List.map_cons, List.map_nil] at e
        rw [e]
        rfl
      | false =>
        simp only [cond_false]
        have e := jn [(fm d.1).w] (by simp) (by simp) (by simp [lineL, hk, hs, hm, Lib.join])
        simp only [List.map_cons, List.map_nil] at e
        rw [e]
        rfl
theorem space (l : Bytes) : s44x0 ++ bs l = bs (32 :: l) := bs_append [32] l
theorem smallN {a : Nat} (h : a ≤ 1000000) : decide (((a : Nat) : Int) > Int.ofNat (9223372036854775807 : Nat)) = false := small (by omega)
theorem line_ref {n : Nat} (hn : 100 ≤ n) {d : Do} (h : Parts d) : f44 n d = some (bs (lineL d)) := by
  have h0 := fm_len d.1
  have num : ∀ u : Nat, u ≤ 4611686018427387904 → f60 n (u : Int) = some (bs (decDigits u)) ∧ (decDigits u).length ≤ 20 := fun u hu =>
    ⟨number_eq u (by omega) n (by have := nDigits_le20 u (by omega); omega), dec20 hu⟩
  rw [f44_eq, form_ref]
  simp only [Option.bind_some]
  cases hk : (fm d.1).k with
  | true =>
    obtain ⟨k1, k2, k3⟩ := h.k hk
    have hkl := (keyL_len k1 k2 k3).1
    simp only [cond_true]
    rw [key_ref hn k1 k2 k3]
    simp only [Option.bind_some, space, bs_append, bs_size]
    rw [smallN (by omega), smallN (by rw [List.length_cons]; omega)]
    simp only [cond_false]
    cases hs : (fm d.1).s with
    | true =>
      obtain ⟨u, hu, hlu⟩ := h.s hs
      obtain ⟨q1, q2⟩ := num u (by omega)
      simp only [cond_true]
      rw [hu, q1]
      simp only [Option.bind_some, space, bs_append, bs_size]
      rw [smallN (by omega), smallN (by simp only [List.length_append, List.length_cons]; omega)]
      simp only [cond_false]
      cases hm : (fm d.1).m with
      | true =>
        obtain ⟨v, hv, hlv⟩ := h.m hm
        obtain ⟨q3, q4⟩ := num v hlv
        simp only [cond_true]
        rw [hv, q3]
        simp only [Option.bind_some, space, bs_append, bs_size]
        rw [smallN (by omega), smallN (by simp only [List.length_append, List.length_cons]; omega)]
        simp only [cond_false]
        congr 2
        simp [lineL, hk, hs, hm, hu, hv]
      | false =>
        simp only [cond_false]
        congr 2
        simp [lineL, hk, hs, hm, hu]
    | false =>
      simp only [cond_false]
      cases hm : (fm d.1).m with
      | true =>
        obtain ⟨v, hv, hlv⟩ := h.m hm
        obtain ⟨q3, q4⟩ := num v hlv
        simp only [cond_true]
        rw [hv, q3]
        simp only [Option.bind_some, space, bs_append, bs_size]
        rw [smallN (by omega), smallN (by simp only [List.length_append, List.length_cons]; omega)]
        simp only [cond_false]
        congr 2
        simp [lineL, hk, hs, hm, hv]
      | false =>
        simp only [cond_false]
        congr 2
        simp [lineL, hk, hs, hm]
  | false =>
    simp only [cond_false]
    cases hs : (fm d.1).s with
    | true =>
      obtain ⟨u, hu, hlu⟩ := h.s hs
      obtain ⟨q1, q2⟩ := num u (by omega)
      simp only [cond_true]
      rw [hu, q1]
      simp only [Option.bind_some, space, bs_append, bs_size]
      rw [smallN (by omega), smallN (by simp only [List.length_cons]; omega)]
      simp only [cond_false]
      cases hm : (fm d.1).m with
      | true =>
        obtain ⟨v, hv, hlv⟩ := h.m hm
        obtain ⟨q3, q4⟩ := num v hlv
        simp only [cond_true]
        rw [hv, q3]
        simp only [Option.bind_some, space, bs_append, bs_size]
        rw [smallN (by omega), smallN (by simp only [List.length_append, List.length_cons]; omega)]
        simp only [cond_false]
        congr 2
        simp [lineL, hk, hs, hm, hu, hv]
      | false =>
        simp only [cond_false]
        congr 2
        simp [lineL, hk, hs, hm, hu]
    | false =>
      simp only [cond_false]
      cases hm : (fm d.1).m with
      | true =>
        obtain ⟨v, hv, hlv⟩ := h.m hm
        obtain ⟨q3, q4⟩ := num v hlv
        simp only [cond_true]
        rw [hv, q3]
        simp only [Option.bind_some, space, bs_append, bs_size]
        rw [smallN (by omega), smallN (by simp only [List.length_cons]; omega)]
        simp only [cond_false]
        congr 2
        simp [lineL, hk, hs, hm, hv]
      | false =>
        simp only [cond_false]
        congr 2
        simp [lineL, hk, hs, hm]
/-! ### what a line is -/
theorem w_nospace (op : Int) : (32 : UInt8) ∉ (fm op).w := by
  rcases op_cases op with h | h
  · rcases h with e | e | e | e | e | e | e | e | e <;> subst e <;> decide
  · rw [h]; decide
theorem dec_nospace (u : Nat) : (32 : UInt8) ∉ decDigits u := fun h => by
  have := dec_digs u _ h
  unfold isDig at this
  simp at this
/-- A line: the word, a space, the rest. -/
def restL (d : Do) : Bytes := (if (fm d.1).k = true then keyL d.2.1 ++ (if (fm d.1).s = true then 32 :: decDigits d.2.2.2.toNat else []) else if (fm d.1).s = true then decDigits d.2.2.2.toNat else decDigits d.2.2.1.toNat)
theorem line_rest {d : Do} (h : MayD d) : lineL d = (fm d.1).w ++ 32 :: restL d := by
  have hw := h.w
  rcases op_cases d.1 with h' | h'
  · unfold lineL restL
    rcases h' with e | e | e | e | e | e | e | e | e <;> rw [e] <;> simp [fm]
  · rw [h'] at hw; exact (hw rfl).elim
theorem w_inj {a b : Int} (h : (fm a).w = (fm b).w) (hn : (fm a).w ≠ []) : a = b := by
  rcases op_cases a with h1 | h1
  · rcases op_cases b with h2 | h2
    · rcases h1 with e | e | e | e | e | e | e | e | e <;> subst e <;> rcases h2 with e | e | e | e | e | e | e | e | e <;> subst e <;> first | rfl | (exact absurd h (by decide))
    · rw [h2] at h; exact (hn h).elim
  · rw [h1] at hn; exact (hn rfl).elim
theorem w_range {a : Int} (hn : (fm a).w ≠ []) : 1 ≤ a ∧ a ≤ 9 := by
  rcases op_cases a with h1 | h1
  · omega
  · rw [h1] at hn; exact (hn rfl).elim
open Go.Rf Go.Lib
/-! ### numbers -/
theorem num_go_any (n : Nat) {l : Bytes} (hl : l.length ≤ 281474976710656) : ∃ v, f64 n (bs l) = some v := by
  have e : ∃ v, f77L n (bs l) 10 64 = some v := by
    show ∃ v, parseF (bs l) 10 64 = some v
    unfold parseF
    rw [if_pos ⟨rfl, rfl, by rw [bs_size]; exact hl⟩]
    split
    · exact ⟨_, rfl⟩
    · exact ⟨_, rfl⟩
    · exact ⟨_, rfl⟩
  obtain ⟨⟨v, b⟩, e⟩ := e
  rw [f64_eq, e]
  cases b
  · exact ⟨_, rfl⟩
  · exact ⟨_, rfl⟩
theorem num_go_dec (n : Nat) {u : Nat} (hu : u ≤ 4611686018427387904) : f64 n (bs (decDigits u)) = some (u : Int) := by
  have e : f77L n (bs (decDigits u)) 10 64 = some ((u : Int), false) := by
    show parseF (bs (decDigits u)) 10 64 = some ((u : Int), false)
    unfold parseF
    rw [if_pos ⟨rfl, rfl, by rw [bs_size]; have := dec20 hu; omega⟩, bs_list, parse_dec (by omega)]
  rw [f64_eq, e]
  rfl
theorem in_len {l : Bytes} {i j : Nat} (h : i + (j + 1) = l.length) : decide (((i : Nat) : Int) < ((bs l).size : Int)) = true ∧ decide (0 ≤ ((i : Nat) : Int) ∧ ((i : Nat) : Int) < ((bs l).size : Int)) = true := by
  rw [bs_size]
  exact ⟨decide_eq_true (by omega), decide_eq_true (by omega)⟩
theorem at_len {l : Bytes} {i : Nat} (h : i = l.length) : decide (((i : Nat) : Int) < ((bs l).size : Int)) = false := by
  rw [bs_size]
  exact decide_eq_false (by omega)
theorem castN {i : Nat} (h : i ≤ 1000000000000000) : IntKind.i64.wrap (((i : Nat) : Int) + 1) = ((i + 1 : Nat) : Int) := by rw [wI (by omega) (by omega)]; omega
/-- It tells something. -/
def Tot {α : Type} (o : Option α) : Prop := ∃ r, o = some r
theorem Tot.of {α : Type} {r : α} : Tot (some r) := ⟨r, rfl⟩
theorem Tot.bif {α : Type} {c : Bool} {x y : Option α} (h1 : c = true → Tot x) (h2 : c = false → Tot y) : Tot (bif c then x else y) := by
  cases c
  · exact h2 rfl
  · exact h1 rfl
theorem num_ref_loop (n : Nat) (hn : 100 ≤ n) (l : Bytes) (hl : l.length ≤ 281474976710656) : ∀ (j i M : Nat) (x : Int), i + j = l.length → j + 1 ≤ M → 0 ≤ x → x ≤ 9223372036854775807 → Tot (f65_6 n M (bs l) x ((i : Nat) : Int)) := by
  intro j
  induction j with
  | zero =>
    intro i M x hi hM h0 h1
    obtain ⟨M, rfl⟩ : ∃ p, M = p + 1 := ⟨M - 1, by omega⟩
    obtain ⟨u, rfl⟩ := Int.eq_ofNat_of_zero_le h0
    rw [f65_6_eq, at_len (by omega), number_eq u (by omega) n (by have := nDigits_le20 u (by omega); omega)]
    exact .of
  | succ j ih =>
    intro i M x hi hM h0 h1
    obtain ⟨M, rfl⟩ : ∃ p, M = p + 1 := ⟨M - 1, by omega⟩
    obtain ⟨a1, a2⟩ := in_len (l := l) (i := i) (j := j) hi
    rw [f65_6_eq, a1, a2]
    simp only [cond_true]
    refine .bif (fun _ => .of) fun _ => .bif (fun _ => .of) fun _ => .bif (fun _ => .of) fun _ => .bif (fun _ => .of) fun hneg => ?_
    have hneg := of_decide_eq_false hneg
    have hr := wI_i64 (IntKind.i64.wrap (x * 10) + IntKind.i64.wrap (IntKind.u8.wrap (byteAt (bs l) ((i : Nat) : Int) - 48)))
    rw [castN (by omega)]
    exact ih (i + 1) M _ (by omega) (by omega) (by omega) hr.2
theorem num_ref_any {n : Nat} {l : Bytes} (hl : l.length ≤ 281474976710656) (hn : l.length + 100 ≤ n) : Tot (f65 n (bs l)) := by
  rw [f65_eq]
  exact num_ref_loop n (by omega) l hl l.length 0 n 0 (by omega) (by omega) (by omega) (by omega)
theorem byte_mid {l1 l2 : Bytes} {c : UInt8} : byteAt (bs (l1 ++ c :: l2)) ((l1.length : Nat) : Int) = ((c.toNat : Nat) : Int) := by
  rw [bs_byte]
  simp
theorem val_snoc (a : Nat) (l : Bytes) (c : UInt8) : val a (l ++ [c]) = val a l * 10 + (c.toNat - 48) := by rw [val_append]; rfl
theorem u8_dig {c : UInt8} (h : isDig c) : IntKind.i64.wrap (IntKind.u8.wrap (((c.toNat : Nat) : Int) - 48)) = ((c.toNat - 48 : Nat) : Int) := by
  unfold isDig at h
  have e : IntKind.u8.wrap (((c.toNat : Nat) : Int) - 48) = ((c.toNat - 48 : Nat) : Int) := by
    rw [IntKind.wrap_u8]
    omega
  rw [e, wI (by omega) (by omega)]
theorem num_ref_dec_loop (n : Nat) (hn : 100 ≤ n) (l : Bytes) (hl : l.length ≤ 281474976710656) (hd : ∀ c ∈ l, isDig c) (hv : val 0 l ≤ 4611686018427387904) :
    ∀ (l2 l1 : Bytes) (M : Nat), l = l1 ++ l2 → l2.length + 1 ≤ M → f65_6 n M (bs l) ((val 0 l1 : Nat) : Int) ((l1.length : Nat) : Int) = some (((val 0 l : Nat) : Int), (decDigits (val 0 l) == l)) := by
  intro l2
  induction l2 with
  | nil =>
    intro l1 M e hM
    obtain ⟨M, rfl⟩ : ∃ p, M = p + 1 := ⟨M - 1, by omega⟩
    rw [List.append_nil] at e
    subst e
    rw [f65_6_eq, at_len rfl, number_eq (val 0 l) (by omega) n (by have := nDigits_le20 (val 0 l) (by omega); omega), cond_false]
    simp only [Option.bind_some, bs_toList]
  | cons c l2 ih =>
    intro l1 M e hM
    obtain ⟨M, rfl⟩ : ∃ p, M = p + 1 := ⟨M - 1, by omega⟩
    have hc : isDig c := hd c (by rw [e]; simp)
    have hlen : l.length = l1.length + (l2.length + 1) := by rw [e]; simp
    obtain ⟨a1, a2⟩ := in_len (l := l) (i := l1.length) (j := l2.length) (by omega)
    have hs := val_snoc 0 l1 c
    have hge : val 0 (l1 ++ [c]) ≤ val 0 l := by
      rw [e, show l1 ++ c :: l2 = (l1 ++ [c]) ++ l2 by simp, val_append 0 (l1 ++ [c])]
      exact val_ge _ _
    have hb : byteAt (bs l) ((l1.length : Nat) : Int) = ((c.toNat : Nat) : Int) := by rw [e]; exact byte_mid
    have hc2 := hc
    unfold isDig at hc2
    rw [f65_6_eq, a1, a2, hb, u8_dig hc]
    simp only [cond_true]
    rw [decide_eq_false (show ¬ ((c.toNat : Nat) : Int) < 48 by omega), decide_eq_false (show ¬ ((c.toNat : Nat) : Int) > 57 by omega), decide_eq_false (show ¬ ((val 0 l1 : Nat) : Int) > 4611686018427387904 by omega)]
    simp only [cond_false]
    have hw : IntKind.i64.wrap (IntKind.i64.wrap (((val 0 l1 : Nat) : Int) * 10) + ((c.toNat - 48 : Nat) : Int)) = ((val 0 (l1 ++ [c]) : Nat) : Int) := by
      rw [wI (n := ((val 0 l1 : Nat) : Int) * 10) (by omega) (by omega), wI (by omega) (by omega), hs]
      omega
    rw [hw, decide_eq_false (by omega), cond_false, castN (by omega)]
    have := ih (l1 ++ [c]) M (by rw [e]; simp) (by rw [List.length_cons] at hM; omega)
    rw [List.length_append] at this
    exact this
theorem num_ref_dec {n : Nat} (hn : 200 ≤ n) {u : Nat} (hu : u ≤ 4611686018427387904) : f65 n (bs (decDigits u)) = some ((u : Int), true) := by
  have h20 := dec20 hu
  have := num_ref_dec_loop n (by omega) (decDigits u) (by omega) (dec_digs u) (by rw [dec_val]; exact hu) (decDigits u) [] n rfl (by omega)
  rw [dec_val] at this
  rw [f65_eq]
  refine this.trans ?_
  simp
/-! ### behind the last space -/
theorem last_loop_at (n : Nat) (a b : Bytes) (h : (32 : UInt8) ∉ b) (hl : (a ++ 32 :: b).length ≤ 281474976710656) : ∀ (k M : Nat), k ≤ b.length → k + 1 ≤ M → f66_4 n M (bs (a ++ 32 :: b)) ByteArray.empty ByteArray.empty ((a.length + 1 + k : Nat) : Int) = some (bs a, bs b) := by
  have hlen : (a ++ (32 : UInt8) :: b).length = a.length + b.length + 1 := by simp; omega
  intro k
  induction k with
  | zero =>
    intro M hk hM
    obtain ⟨M, rfl⟩ : ∃ p, M = p + 1 := ⟨M - 1, by omega⟩
    have w1 : IntKind.i64.wrap (((a.length + 1 + 0 : Nat) : Int) - 1) = ((a.length : Nat) : Int) := by rw [wI (by omega) (by omega)]; omega
    rw [f66_4_eq, w1, bs_size, byte_mid, decide_eq_true (by omega), decide_eq_true (by omega)]
    simp only [cond_true]
    rw [show ((((32 : UInt8).toNat : Nat) : Int) != 32) = false from rfl, cond_false, show ((((a.length + 1 + 0 : Nat) : Int)) == 0) = false from beq_false_of_ne (by omega), cond_false, decide_eq_true (by omega), decide_eq_true (by omega)]
    simp only [cond_true, bs_extract]
    have e1 : ((a ++ (32 : UInt8) :: b).drop 0).take (((a.length : Nat) : Int).toNat - 0) = a := by simp
    have e2 : ((a ++ (32 : UInt8) :: b).drop (((a.length + 1 + 0 : Nat) : Int)).toNat).take ((((a ++ (32 : UInt8) :: b).length : Nat) : Int).toNat - ((a.length + 1 + 0 : Nat) : Int).toNat) = b := by
      rw [show ((a.length + 1 + 0 : Nat) : Int).toNat = a.length + 1 from rfl, show (((a ++ (32 : UInt8) :: b).length : Nat) : Int).toNat = (a ++ (32 : UInt8) :: b).length from rfl, show a ++ (32 : UInt8) :: b = (a ++ [32]) ++ b by simp, List.drop_append_of_le_length (by simp)]
      simp
      exact List.take_of_length_le (by omega)
    rw [e1, e2]
  | succ k ih =>
    intro M hk hM
    obtain ⟨M, rfl⟩ : ∃ p, M = p + 1 := ⟨M - 1, by omega⟩
    have w1 : IntKind.i64.wrap (((a.length + 1 + (k + 1) : Nat) : Int) - 1) = ((a.length + 1 + k : Nat) : Int) := by rw [wI (by omega) (by omega)]; omega
    have hb : (byteAt (bs (a ++ 32 :: b)) ((a.length + 1 + k : Nat) : Int) != 32) = true := by
      rw [bs_byte]
      have : (a ++ (32 : UInt8) :: b).getD (a.length + 1 + k) 0 = b.getD k 0 := by
        simp only [List.getD]
        rw [List.getElem?_append_right (by omega), show a.length + 1 + k - a.length = k + 1 by omega, List.getElem?_cons_succ]
      rw [this]
      have hk' : k < b.length := by omega
      have hmem : b.getD k 0 ∈ b := by simp [hk']
      have : b.getD k 0 ≠ 32 := fun h' => h (h' ▸ hmem)
      have : (b.getD k 0).toNat ≠ 32 := fun h' => this (UInt8.toNat_inj.1 h')
      simp only [bne_iff_ne, ne_eq]
      omega
    rw [f66_4_eq, w1, hb, bs_size, decide_eq_true (by omega), decide_eq_true (by omega)]
    simp only [cond_true]
    exact ih M (by omega) (by omega)
theorem last_loop_none (n : Nat) (l : Bytes) (h : (32 : UInt8) ∉ l) (hl : l.length ≤ 281474976710656) : ∀ (k M : Nat), k ≤ l.length → k + 1 ≤ M → f66_4 n M (bs l) ByteArray.empty ByteArray.empty ((k : Nat) : Int) = some (bs [], bs l) := by
  intro k
  induction k with
  | zero =>
    intro M hk hM
    obtain ⟨M, rfl⟩ : ∃ p, M = p + 1 := ⟨M - 1, by omega⟩
    rw [f66_4_eq]
    rfl
  | succ k ih =>
    intro M hk hM
    obtain ⟨M, rfl⟩ : ∃ p, M = p + 1 := ⟨M - 1, by omega⟩
    have w1 : IntKind.i64.wrap (((k + 1 : Nat) : Int) - 1) = ((k : Nat) : Int) := by rw [wI (by omega) (by omega)]; omega
    have hb : (byteAt (bs l) ((k : Nat) : Int) != 32) = true := by
      rw [bs_byte]
      have hk' : k < l.length := by omega
      have hmem : l.getD k 0 ∈ l := by simp [hk']
      have : l.getD k 0 ≠ 32 := fun h' => h (h' ▸ hmem)
      have : (l.getD k 0).toNat ≠ 32 := fun h' => this (UInt8.toNat_inj.1 h')
      simp only [bne_iff_ne, ne_eq]
      omega
    rw [f66_4_eq, w1, hb, bs_size, decide_eq_true (by omega), decide_eq_true (by omega)]
    simp only [cond_true]
    exact ih M (by omega) (by omega)
theorem last_ref_at {n : Nat} {a b : Bytes} (h : (32 : UInt8) ∉ b) (hl : (a ++ 32 :: b).length ≤ 281474976710656) (hn : (a ++ 32 :: b).length + 2 ≤ n) : f66 n (bs (a ++ 32 :: b)) = some (bs a, bs b) := by
  have hlen : (a ++ (32 : UInt8) :: b).length = a.length + 1 + b.length := by simp; omega
  rw [f66_eq, bs_size, hlen]
  exact last_loop_at n a b h hl b.length n (by omega) (by omega)
theorem last_ref_none {n : Nat} {l : Bytes} (h : (32 : UInt8) ∉ l) (hl : l.length ≤ 281474976710656) (hn : l.length + 2 ≤ n) : f66 n (bs l) = some (bs [], bs l) := by
  rw [f66_eq, bs_size]
  exact last_loop_none n l h hl l.length n (by omega) (by omega)
theorem last_go_at (n : Nat) {a b : Bytes} (h : (32 : UInt8) ∉ b) (hl : (a ++ 32 :: b).length ≤ 281474976710656) : f62 n (bs (a ++ 32 :: b)) (bs [32]) = some ((a.length : Nat) : Int) := by
  show lastF (bs (a ++ 32 :: b)) (bs [32]) = _
  unfold lastF
  rw [if_pos (by rw [bs_size]; omega), bs_list]
  show some (lastIndexByte (bs (a ++ 32 :: b)) (((32 : UInt8).toNat : Nat) : Int)) = _
  rw [last_at h]
theorem last_go_none (n : Nat) {l : Bytes} (h : (32 : UInt8) ∉ l) (hl : l.length ≤ 281474976710656) : f62 n (bs l) (bs [32]) = some (-1) := by
  show lastF (bs l) (bs [32]) = _
  unfold lastF
  rw [if_pos (by rw [bs_size]; omega), bs_list]
  show some (lastIndexByte (bs l) (((32 : UInt8).toNat : Nat) : Int)) = _
  rw [last_none h]
open Go.Rf Go.Lib
/-- What reading a key tells: a key whose space is a number of 16 bits. -/
def Good (k : Key) : Prop := 0 ≤ k.1 ∧ k.1 ≤ 65535
theorem good_zero : Good (0, ByteArray.empty) := ⟨by decide, by decide⟩
theorem good_u16 (x : Int) (b : ByteArray) : Good (IntKind.u16.wrap x, b) := by
  unfold Good
  rw [IntKind.wrap_u16]
  constructor <;> omega
def TotK (o : Option (Key × Int × Int)) : Prop := ∃ k i e, o = some (k, i, e) ∧ Good k
theorem TotK.zero {i e : Int} : TotK (some ((0, ByteArray.empty), i, e)) := ⟨_, _, _, rfl, good_zero⟩
theorem TotK.bif {c : Bool} {x y : Option (Key × Int × Int)} (h1 : c = true → TotK x) (h2 : c = false → TotK y) : TotK (bif c then x else y) := by
  cases c
  · exact h2 rfl
  · exact h1 rfl
theorem end_go (n M : Nat) (hM : 1 ≤ M) (l : Bytes) (hl : l.length ≤ 281474976710656) (x : Int) (i : Nat) (hi : i ≤ l.length) (z : Key) : TotK (f63_19 n M (bs l) x ((i : Nat) : Int) z) := by
  obtain ⟨M, rfl⟩ : ∃ p, M = p + 1 := ⟨M - 1, by omega⟩
  rw [f63_19_eq]
  refine .bif (fun _ => .zero) fun _ => .bif (fun _ => .zero) fun hne => ?_
  have hne : ((i : Nat) : Int) ≠ ((bs l).size : Int) := by simpa using hne
  rw [bs_size] at hne ⊢
  rw [decide_eq_true (show 0 ≤ ((i : Nat) : Int) ∧ ((i : Nat) : Int) < ((l.length : Nat) : Int) by omega), cond_true, castN (by omega), decide_eq_true (show 0 ≤ ((i + 1 : Nat) : Int) ∧ ((i + 1 : Nat) : Int) ≤ ((l.length : Nat) : Int) ∧ ((l.length : Nat) : Int) ≤ ((l.length : Nat) : Int) by omega)]
  exact .bif (fun _ => .zero) fun _ => .bif (fun _ => .zero) fun _ => ⟨_, _, _, rfl, good_u16 _ _⟩
theorem key_go_loop (n : Nat) (l : Bytes) (hl : l.length ≤ 281474976710656) (z : Key) : ∀ (j i M : Nat) (x : Int), i + j = l.length → 3 * j + 3 ≤ M → 0 ≤ x → x ≤ 65535 → TotK (f63_4 n M (bs l) x ((i : Nat) : Int) z) := by
  intro j
  induction j with
  | zero =>
    intro i M x hi hM h0 h1
    obtain ⟨M, rfl⟩ : ∃ p, M = p + 1 := ⟨M - 1, by omega⟩
    rw [f63_4_eq, at_len (by omega), cond_false]
    exact end_go n M (by omega) l hl x i (by omega) z
  | succ j ih =>
    intro i M x hi hM h0 h1
    obtain ⟨M, rfl⟩ : ∃ p, M = p + 1 + 1 + 1 := ⟨M - 3, by omega⟩
    obtain ⟨a1, a2⟩ := in_len (l := l) (i := i) (j := j) hi
    have e := end_go n (M + 1 + 1) (by omega) l hl x i (by omega) z
    rw [f63_4_eq, a1, a2]
    simp only [cond_true]
    refine .bif (fun _ => .bif (fun _ => ?_) fun _ => e) fun _ => e
    have k : TotK (f63_11 n (M + 1) (bs l) x ((i : Nat) : Int) (bs l) ((i : Nat) : Int) (byteAt (bs l) ((i : Nat) : Int)) (decide (byteAt (bs l) ((i : Nat) : Int) ≥ 48)) (bs l) ((i : Nat) : Int) (byteAt (bs l) ((i : Nat) : Int)) (decide (byteAt (bs l) ((i : Nat) : Int) ≤ 57)) z) := by
      rw [f63_11_eq, a2, cond_true]
      refine .bif (fun _ => .zero) fun hv => ?_
      have hv := of_decide_eq_false hv
      rw [castN (by omega)]
      have hlow : 0 ≤ IntKind.i64.wrap (IntKind.i64.wrap (10 * x) + IntKind.i64.wrap (IntKind.u8.wrap (byteAt (bs l) ((i : Nat) : Int) - 48))) := by
        have hu : 0 ≤ IntKind.u8.wrap (byteAt (bs l) ((i : Nat) : Int) - 48) ∧ IntKind.u8.wrap (byteAt (bs l) ((i : Nat) : Int) - 48) ≤ 255 := by
          rw [IntKind.wrap_u8]; constructor <;> omega
        rw [wI (n := 10 * x) (by omega) (by omega), wI (n := IntKind.u8.wrap (byteAt (bs l) ((i : Nat) : Int) - 48)) (by omega) (by omega), wI (by omega) (by omega)]
        omega
      exact ih (i + 1) M _ (by omega) (by omega) hlow (by omega)
    rw [f63_7_eq]
    exact .bif (fun _ => .bif (fun _ => .zero) fun _ => k) fun _ => k
theorem key_go_any {n : Nat} {l : Bytes} (hl : l.length ≤ 281474976710656) (hn : 3 * l.length + 3 ≤ n) : TotK (f63 n (bs l)) := by
  rw [f63_eq]
  exact key_go_loop n l hl _ l.length 0 n 0 (by omega) (by omega) (by omega) (by omega)
/-! ### a key's text -/
theorem key_go_dec_loop (n u : Nat) (hu : u ≤ 65535) (nm : Bytes) (hnm : nm.length ≤ 64) (z : Key) :
    ∀ (l2 l1 : Bytes) (M : Nat), decDigits u = l1 ++ l2 → 3 * l2.length + 3 ≤ M → f63_4 n M (bs (decDigits u ++ 58 :: nm)) ((val 0 l1 : Nat) : Int) ((l1.length : Nat) : Int) z = some (((u : Int), bs nm), 0, 0) := by
  have h20 : (decDigits u).length ≤ 20 := dec20 (by omega)
  have hlen : (decDigits u ++ (58 : UInt8) :: nm).length = (decDigits u).length + (nm.length + 1) := by simp
  intro l2
  induction l2 with
  | nil =>
    intro l1 M e hM
    obtain ⟨M, rfl⟩ : ∃ p, M = p + 1 + 1 := ⟨M - 2, by omega⟩
    rw [List.append_nil] at e
    subst e
    have hne : 1 ≤ (decDigits u).length := by
      have := dec_ne u
      cases h : decDigits u with
      | nil => exact (this h).elim
      | cons _ _ => simp
    obtain ⟨a1, a2⟩ := in_len (l := decDigits u ++ (58 : UInt8) :: nm) (i := (decDigits u).length) (j := nm.length) (by omega)
    rw [f63_4_eq, a1, a2, byte_mid]
    simp only [cond_true]
    rw [show decide ((((58 : UInt8).toNat : Nat) : Int) ≥ 48) = true from rfl, cond_true, show decide ((((58 : UInt8).toNat : Nat) : Int) ≤ 57) = false from rfl, cond_false, f63_19_eq, a2, byte_mid, bs_size]
    rw [show ((((decDigits u).length : Nat) : Int) == 0) = false from beq_false_of_ne (by omega), cond_false, show ((((decDigits u).length : Nat) : Int) == (((decDigits u ++ (58 : UInt8) :: nm).length : Nat) : Int)) = false from beq_false_of_ne (by omega), cond_false, cond_true, show ((((58 : UInt8).toNat : Nat) : Int) != 58) = false from rfl, cond_false]
    have w1 : IntKind.i64.wrap (IntKind.i64.wrap ((((decDigits u ++ (58 : UInt8) :: nm).length : Nat) : Int) - (((decDigits u).length : Nat) : Int)) - 1) = ((nm.length : Nat) : Int) := by
      rw [wI (n := (((decDigits u ++ (58 : UInt8) :: nm).length : Nat) : Int) - (((decDigits u).length : Nat) : Int)) (by omega) (by omega), wI (by omega) (by omega)]
      omega
    rw [w1, decide_eq_false (by omega), cond_false, castN (by omega), decide_eq_true (by omega), cond_true, bs_extract, dec_val]
    have e2 : ((decDigits u ++ (58 : UInt8) :: nm).drop ((((decDigits u).length + 1 : Nat) : Int)).toNat).take ((((decDigits u ++ (58 : UInt8) :: nm).length : Nat) : Int).toNat - (((decDigits u).length + 1 : Nat) : Int).toNat) = nm := by
      rw [show (((decDigits u).length + 1 : Nat) : Int).toNat = (decDigits u).length + 1 from rfl, show (((decDigits u ++ (58 : UInt8) :: nm).length : Nat) : Int).toNat = (decDigits u ++ (58 : UInt8) :: nm).length from rfl, show decDigits u ++ (58 : UInt8) :: nm = (decDigits u ++ [58]) ++ nm by simp, List.drop_append_of_le_length (by simp)]
      simp
      exact List.take_of_length_le (by omega)
    rw [e2, show IntKind.u16.wrap (u : Int) = (u : Int) by rw [IntKind.wrap_u16]; omega]
  | cons c l2 ih =>
    intro l1 M e hM
    obtain ⟨M, rfl⟩ : ∃ p, M = p + 1 + 1 + 1 := ⟨M - 3, by omega⟩
    have hc : isDig c := dec_digs u c (by rw [e]; simp)
    have hl1 : (decDigits u).length = l1.length + (l2.length + 1) := by rw [e]; simp
    have hs := val_snoc 0 l1 c
    have hge : val 0 (l1 ++ [c]) ≤ u := by
      have := val_ge (val 0 (l1 ++ [c])) l2
      rw [← val_append, show (l1 ++ [c]) ++ l2 = l1 ++ c :: l2 by simp, ← e, dec_val] at this
      exact this
    have etext : decDigits u ++ (58 : UInt8) :: nm = l1 ++ c :: (l2 ++ 58 :: nm) := by rw [e]; simp
    have hb : byteAt (bs (decDigits u ++ (58 : UInt8) :: nm)) ((l1.length : Nat) : Int) = ((c.toNat : Nat) : Int) := by rw [etext]; exact byte_mid
    obtain ⟨a1, a2⟩ := in_len (l := decDigits u ++ (58 : UInt8) :: nm) (i := l1.length) (j := l2.length + nm.length + 1) (by omega)
    have hc2 := hc
    unfold isDig at hc2
    have hw : IntKind.i64.wrap (IntKind.i64.wrap (10 * ((val 0 l1 : Nat) : Int)) + ((c.toNat - 48 : Nat) : Int)) = ((val 0 (l1 ++ [c]) : Nat) : Int) := by
      rw [wI (n := 10 * ((val 0 l1 : Nat) : Int)) (by omega) (by omega), wI (by omega) (by omega), hs]
      omega
    have rc := ih (l1 ++ [c]) M (by rw [e]; simp) (by rw [List.length_cons] at hM; omega)
    rw [List.length_append] at rc
    rw [f63_4_eq, a1, a2, hb]
    simp only [cond_true]
    rw [decide_eq_true (show ((c.toNat : Nat) : Int) ≥ 48 by omega), decide_eq_true (show ((c.toNat : Nat) : Int) ≤ 57 by omega), cond_true, cond_true, f63_7_eq, f63_11_eq, a2, hb, u8_dig hc, hw, cond_true, decide_eq_false (show ¬ ((val 0 (l1 ++ [c]) : Nat) : Int) > 65535 by omega), cond_false, castN (by omega)]
    by_cases hz : l1 = []
    · subst hz
      rw [show decide ((((([] : Bytes).length : Nat) : Int)) > 0) = false from rfl, cond_false]
      exact rc
    · have h1 := dec_first u l1 (c :: l2) e hz (by simp)
      have hl : 1 ≤ l1.length := by
        cases l1 with
        | nil => exact (hz rfl).elim
        | cons _ _ => simp
      rw [decide_eq_true (by omega), cond_true, show (((val 0 l1 : Nat) : Int) == 0) = false from beq_false_of_ne (by omega), cond_false]
      exact rc
theorem key_go_dec {n : Nat} (hn : 100 ≤ n) {k : Key} (h0 : 0 ≤ k.1) (h1 : k.1 ≤ 65535) (hs : (k.2.size : Int) ≤ 64) : f63 n (bs (keyL k)) = some (k, 0, 0) := by
  obtain ⟨u, hu⟩ := Int.eq_ofNat_of_zero_le h0
  have h20 : (decDigits u).length ≤ 20 := dec20 (by omega)
  have := key_go_dec_loop n u (by omega) k.2.data.toList (by rw [← size_eq]; omega) (0, ByteArray.empty) (decDigits u) [] n rfl (by omega)
  rw [f63_eq]
  unfold keyL
  rw [hu]
  refine this.trans ?_
  rw [← bs_data, ← hu]
/-! ### the document's -/
def TotR (o : Option (Key × Int)) : Prop := ∃ k i, o = some (k, i) ∧ Good k
theorem TotR.zero {i : Int} : TotR (some ((0, ByteArray.empty), i)) := ⟨_, _, rfl, good_zero⟩
theorem TotR.bif {c : Bool} {x y : Option (Key × Int)} (h1 : c = true → TotR x) (h2 : c = false → TotR y) : TotR (bif c then x else y) := by
  cases c
  · exact h2 rfl
  · exact h1 rfl
theorem end_ref (l : Bytes) (hl : l.length ≤ 281474976710656) (x : Int) (i : Nat) (hi : i ≤ l.length) : TotR (bif ((i : Nat) : Int) == ((bs l).size : Int) then some ((0, ByteArray.empty), ((i : Nat) : Int)) else bif ((i : Nat) : Int) == 0 then some ((0, ByteArray.empty), ((i : Nat) : Int)) else
    bif decide (IntKind.i64.wrap (IntKind.i64.wrap (((bs l).size : Int) - ((i : Nat) : Int)) - 1) > 64) then some ((0, ByteArray.empty), IntKind.i64.wrap (IntKind.i64.wrap (((i : Nat) : Int) + 1) + 64)) else
    bif decide (0 ≤ IntKind.i64.wrap (((i : Nat) : Int) + 1) ∧ IntKind.i64.wrap (((i : Nat) : Int) + 1) ≤ ((bs l).size : Int) ∧ ((bs l).size : Int) ≤ ((bs l).size : Int)) then
      some ((IntKind.u16.wrap x, (bs l).extract (IntKind.i64.wrap (((i : Nat) : Int) + 1)).toNat ((bs l).size : Int).toNat), (-1 : Int)) else none) := by
  refine .bif (fun _ => .zero) fun hne => .bif (fun _ => .zero) fun _ => .bif (fun _ => .zero) fun _ => ?_
  have hne : ((i : Nat) : Int) ≠ ((bs l).size : Int) := by simpa using hne
  rw [bs_size] at hne
  rw [castN (by omega), bs_size, decide_eq_true (by omega)]
  exact ⟨_, _, rfl, good_u16 _ _⟩
theorem key_ref_loop (n : Nat) (l : Bytes) (hl : l.length ≤ 281474976710656) (z : Key) : ∀ (j i M : Nat) (x : Int), i + j = l.length → j + 1 ≤ M → 0 ≤ x → x ≤ 65535 → TotR (f67_4 n M (bs l) x ((i : Nat) : Int) z) := by
  intro j
  induction j with
  | zero =>
    intro i M x hi hM h0 h1
    obtain ⟨M, rfl⟩ : ∃ p, M = p + 1 := ⟨M - 1, by omega⟩
    rw [f67_4_eq, at_len (by omega), cond_false]
    exact end_ref l hl x i (by omega)
  | succ j ih =>
    intro i M x hi hM h0 h1
    obtain ⟨M, rfl⟩ : ∃ p, M = p + 1 := ⟨M - 1, by omega⟩
    obtain ⟨a1, a2⟩ := in_len (l := l) (i := i) (j := j) hi
    rw [f67_4_eq, a1, a2]
    simp only [cond_true]
    have next : TotR (bif decide (IntKind.i64.wrap (IntKind.i64.wrap (10 * x) + IntKind.i64.wrap (IntKind.u8.wrap (byteAt (bs l) ((i : Nat) : Int) - 48))) > 65535) then some ((0, ByteArray.empty), ((i : Nat) : Int)) else
        f67_4 n M (bs l) (IntKind.i64.wrap (IntKind.i64.wrap (10 * x) + IntKind.i64.wrap (IntKind.u8.wrap (byteAt (bs l) ((i : Nat) : Int) - 48)))) (IntKind.i64.wrap (((i : Nat) : Int) + 1)) z) := by
      refine .bif (fun _ => .zero) fun hv => ?_
      have hv := of_decide_eq_false hv
      rw [castN (by omega)]
      have hlow : 0 ≤ IntKind.i64.wrap (IntKind.i64.wrap (10 * x) + IntKind.i64.wrap (IntKind.u8.wrap (byteAt (bs l) ((i : Nat) : Int) - 48))) := by
        have hu : 0 ≤ IntKind.u8.wrap (byteAt (bs l) ((i : Nat) : Int) - 48) ∧ IntKind.u8.wrap (byteAt (bs l) ((i : Nat) : Int) - 48) ≤ 255 := by
          rw [IntKind.wrap_u8]; constructor <;> omega
        rw [wI (n := 10 * x) (by omega) (by omega), wI (n := IntKind.u8.wrap (byteAt (bs l) ((i : Nat) : Int) - 48)) (by omega) (by omega), wI (by omega) (by omega)]
        omega
      exact ih (i + 1) M _ (by omega) (by omega) hlow (by omega)
    refine .bif (fun _ => .bif (fun _ => .zero) fun _ => .bif (fun _ => .zero) fun _ => .bif (fun _ => .bif (fun _ => .zero) fun _ => next) fun _ => next) fun _ => ?_
    exact end_ref l hl x i (by omega)
theorem key_ref_any {n : Nat} {l : Bytes} (hl : l.length ≤ 281474976710656) (hn : l.length + 1 ≤ n) : TotR (f67 n (bs l)) := by
  rw [f67_eq]
  exact key_ref_loop n l hl _ l.length 0 n 0 (by omega) (by omega) (by omega) (by omega)
theorem key_ref_dec_loop (n u : Nat) (hu : u ≤ 65535) (nm : Bytes) (hnm : nm.length ≤ 64) (z : Key) :
    ∀ (l2 l1 : Bytes) (M : Nat), decDigits u = l1 ++ l2 → l2.length + 1 ≤ M → f67_4 n M (bs (decDigits u ++ 58 :: nm)) ((val 0 l1 : Nat) : Int) ((l1.length : Nat) : Int) z = some (((u : Int), bs nm), -1) := by
  have h20 : (decDigits u).length ≤ 20 := dec20 (by omega)
  have hlen : (decDigits u ++ (58 : UInt8) :: nm).length = (decDigits u).length + (nm.length + 1) := by simp
  intro l2
  induction l2 with
  | nil =>
    intro l1 M e hM
    obtain ⟨M, rfl⟩ : ∃ p, M = p + 1 := ⟨M - 1, by omega⟩
    rw [List.append_nil] at e
    subst e
    have hne : 1 ≤ (decDigits u).length := by
      have := dec_ne u
      cases h : decDigits u with
      | nil => exact (this h).elim
      | cons _ _ => simp
    obtain ⟨a1, a2⟩ := in_len (l := decDigits u ++ (58 : UInt8) :: nm) (i := (decDigits u).length) (j := nm.length) (by omega)
    rw [f67_4_eq, a1, a2, byte_mid, bs_size]
    simp only [cond_true]
    rw [show ((((58 : UInt8).toNat : Nat) : Int) != 58) = false from rfl, cond_false]
    rw [show ((((decDigits u).length : Nat) : Int) == (((decDigits u ++ (58 : UInt8) :: nm).length : Nat) : Int)) = false from beq_false_of_ne (by omega), cond_false, show ((((decDigits u).length : Nat) : Int) == 0) = false from beq_false_of_ne (by omega), cond_false]
    have w1 : IntKind.i64.wrap (IntKind.i64.wrap ((((decDigits u ++ (58 : UInt8) :: nm).length : Nat) : Int) - (((decDigits u).length : Nat) : Int)) - 1) = ((nm.length : Nat) : Int) := by
      rw [wI (n := (((decDigits u ++ (58 : UInt8) :: nm).length : Nat) : Int) - (((decDigits u).length : Nat) : Int)) (by omega) (by omega), wI (by omega) (by omega)]
      omega
    rw [w1, decide_eq_false (by omega), cond_false, castN (by omega), decide_eq_true (by omega), cond_true, bs_extract, dec_val]
    have e2 : ((decDigits u ++ (58 : UInt8) :: nm).drop ((((decDigits u).length + 1 : Nat) : Int)).toNat).take ((((decDigits u ++ (58 : UInt8) :: nm).length : Nat) : Int).toNat - (((decDigits u).length + 1 : Nat) : Int).toNat) = nm := by
      rw [show (((decDigits u).length + 1 : Nat) : Int).toNat = (decDigits u).length + 1 from rfl, show (((decDigits u ++ (58 : UInt8) :: nm).length : Nat) : Int).toNat = (decDigits u ++ (58 : UInt8) :: nm).length from rfl, show decDigits u ++ (58 : UInt8) :: nm = (decDigits u ++ [58]) ++ nm by simp, List.drop_append_of_le_length (by simp)]
      simp
      exact List.take_of_length_le (by omega)
    rw [e2, show IntKind.u16.wrap (u : Int) = (u : Int) by rw [IntKind.wrap_u16]; omega]
  | cons c l2 ih =>
    intro l1 M e hM
    obtain ⟨M, rfl⟩ : ∃ p, M = p + 1 := ⟨M - 1, by omega⟩
    have hc : isDig c := dec_digs u c (by rw [e]; simp)
    have hl1 : (decDigits u).length = l1.length + (l2.length + 1) := by rw [e]; simp
    have hs := val_snoc 0 l1 c
    have hge : val 0 (l1 ++ [c]) ≤ u := by
      have := val_ge (val 0 (l1 ++ [c])) l2
      rw [← val_append, show (l1 ++ [c]) ++ l2 = l1 ++ c :: l2 by simp, ← e, dec_val] at this
      exact this
    have etext : decDigits u ++ (58 : UInt8) :: nm = l1 ++ c :: (l2 ++ 58 :: nm) := by rw [e]; simp
    have hb : byteAt (bs (decDigits u ++ (58 : UInt8) :: nm)) ((l1.length : Nat) : Int) = ((c.toNat : Nat) : Int) := by rw [etext]; exact byte_mid
    obtain ⟨a1, a2⟩ := in_len (l := decDigits u ++ (58 : UInt8) :: nm) (i := l1.length) (j := l2.length + nm.length + 1) (by omega)
    have hc2 := hc
    unfold isDig at hc2
    have hw : IntKind.i64.wrap (IntKind.i64.wrap (10 * ((val 0 l1 : Nat) : Int)) + ((c.toNat - 48 : Nat) : Int)) = ((val 0 (l1 ++ [c]) : Nat) : Int) := by
      rw [wI (n := 10 * ((val 0 l1 : Nat) : Int)) (by omega) (by omega), wI (by omega) (by omega), hs]
      omega
    have rc := ih (l1 ++ [c]) M (by rw [e]; simp) (by rw [List.length_cons] at hM; omega)
    rw [List.length_append] at rc
    rw [f67_4_eq, a1, a2, hb, u8_dig hc, hw]
    simp only [cond_true]
    rw [show (((c.toNat : Nat) : Int) != 58) = true by simp only [bne_iff_ne, ne_eq]; omega, cond_true, decide_eq_false (show ¬ ((c.toNat : Nat) : Int) < 48 by omega), decide_eq_false (show ¬ ((c.toNat : Nat) : Int) > 57 by omega), cond_false, cond_false, decide_eq_false (show ¬ ((val 0 (l1 ++ [c]) : Nat) : Int) > 65535 by omega), cond_false, castN (by omega)]
    by_cases hz : l1 = []
    · subst hz
      rw [show decide ((((([] : Bytes).length : Nat) : Int)) > 0) = false from rfl, cond_false]
      exact rc
    · have h1 := dec_first u l1 (c :: l2) e hz (by simp)
      have hl : 1 ≤ l1.length := by
        cases l1 with
        | nil => exact (hz rfl).elim
        | cons _ _ => simp
      rw [decide_eq_true (by omega), cond_true, show (((val 0 l1 : Nat) : Int) == 0) = false from beq_false_of_ne (by omega), cond_false]
      exact rc
theorem key_ref_dec {n : Nat} (hn : 100 ≤ n) {k : Key} (h0 : 0 ≤ k.1) (h1 : k.1 ≤ 65535) (hs : (k.2.size : Int) ≤ 64) : f67 n (bs (keyL k)) = some (k, -1) := by
  obtain ⟨u, hu⟩ := Int.eq_ofNat_of_zero_le h0
  have h20 : (decDigits u).length ≤ 20 := dec20 (by omega)
  have := key_ref_dec_loop n u (by omega) k.2.data.toList (by rw [← size_eq]; omega) (0, ByteArray.empty) (decDigits u) [] n rfl (by omega)
  rw [f67_eq]
  unfold keyL
  rw [hu]
  refine this.trans ?_
  rw [← bs_data, ← hu]
end Go.Proofs.YthpcpofcadpijaaDoor
