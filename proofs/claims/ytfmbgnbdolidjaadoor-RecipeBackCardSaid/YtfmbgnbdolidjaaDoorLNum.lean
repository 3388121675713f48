/- Texts as lists of bytes: digits and numbers. -/
import Derived.Test.YtfmbgnbdolidjaaDoorLRec
import Derived.Lib.ItoaLen
import Derived.Lib.ItoaMem
import Derived.Lib.AtoiAllCases
import Derived.Lib.ParseIntBTie
import Derived.Lib.SplitLaws
namespace Go.Proofs.YtfmbgnbdolidjaaDoor
open Go.Rf Go.Lib
abbrev Bytes := List UInt8
def bs (l : Bytes) : ByteArray := ⟨l.toArray⟩
theorem bs_of (s : ByteArray) : ∃ l, s = bs l := ⟨s.data.toList, by obtain ⟨⟨l⟩⟩ := s; rfl⟩
theorem bs_list (l : Bytes) : (bs l).data.toList = l := rfl
theorem bs_toList (l : Bytes) : (bs l).toList = l := by rw [toList_data]; rfl
theorem bs_size (l : Bytes) : (bs l).size = l.length := by rw [size_eq]; rfl
theorem bs_inj {a b : Bytes} (h : bs a = bs b) : a = b := by
  have := congrArg (fun s : ByteArray => s.data.toList) h
  exact this
theorem bs_append (a b : Bytes) : bs a ++ bs b = bs (a ++ b) := by
  apply ByteArray.ext
  simp [bs]
theorem bs_extract (l : Bytes) (i j : Nat) : (bs l).extract i j = bs ((l.drop i).take (j - i)) := by
  obtain ⟨k, hk⟩ := bs_of ((bs l).extract i j)
  have := extract_data (bs l) i j
  rw [hk, bs_list, bs_list] at this
  rw [hk, this]
theorem bs_empty : ByteArray.empty = bs [] := rfl
theorem bs_byte (l : Bytes) (i : Nat) : byteAt (bs l) ((i : Nat) : Int) = ((l.getD i 0).toNat : Int) := rfl
theorem split_byte (c : UInt8) : ∀ l : Bytes, c ∉ l ∨ ∃ a b, l = a ++ c :: b ∧ c ∉ a
  | [] => .inl (by simp)
  | x :: l => by
    by_cases h : x = c
    · exact .inr ⟨[], l, by rw [h]; rfl, by simp⟩
    · rcases split_byte c l with h1 | ⟨a, b, e, h1⟩
      · exact .inl (by simp [h1]; exact fun e => h e.symm)
      · exact .inr ⟨x :: a, b, by rw [e]; rfl, by simp [h1]; exact fun e => h e.symm⟩
def isDig (c : UInt8) : Prop := 48 ≤ c.toNat ∧ c.toNat ≤ 57
def val : Nat → Bytes → Nat
  | a, [] => a
  | a, c :: l => val (a * 10 + (c.toNat - 48)) l
theorem val_append : ∀ (a : Nat) (l1 l2 : Bytes), val a (l1 ++ l2) = val (val a l1) l2
  | _, [], _ => rfl
  | _, _ :: l1, l2 => val_append _ l1 l2
theorem val_ge : ∀ (a : Nat) (l : Bytes), a ≤ val a l
  | _, [] => Nat.le_refl _
  | _, _ :: l => Nat.le_trans (by omega) (val_ge _ l)
theorem dig_nat {d : Nat} (h : d < 10) : (UInt8.ofNat (48 + d)).toNat = 48 + d := by
  rw [UInt8.toNat_ofNat']
  omega
theorem dec_digs (u : Nat) : ∀ c ∈ decDigits u, isDig c := by
  induction u using Nat.strongRecOn with
  | _ u ih =>
    rw [decDigits]
    split
    · rename_i h
      intro c hc
      rw [List.mem_singleton] at hc
      subst hc
      rw [isDig, dig_nat h]
      omega
    · rename_i h
      intro c hc
      rcases List.mem_append.1 hc with hc | hc
      · exact ih (u / 10) (by omega) c hc
      · rw [List.mem_singleton] at hc
        subst hc
        rw [isDig, dig_nat (by omega)]
        omega
theorem dec_val (u : Nat) : val 0 (decDigits u) = u := by
  induction u using Nat.strongRecOn with
  | _ u ih =>
    rw [decDigits]
    split
    · rename_i h
      show 0 * 10 + ((UInt8.ofNat (48 + u)).toNat - 48) = u
      rw [dig_nat h]
      omega
    · rename_i h
      rw [val_append, ih (u / 10) (by omega)]
      show u / 10 * 10 + ((UInt8.ofNat (48 + u % 10)).toNat - 48) = u
      rw [dig_nat (by omega)]
      omega
theorem dec_ne (u : Nat) : decDigits u ≠ [] := fun h => by
  have := decDigits_length u
  rw [h] at this
  have := nDigits_pos u
  simp at *
  omega
theorem parse_digs : ∀ (l : Bytes) (a : Nat), (∀ c ∈ l, isDig c) → val a l ≤ 9223372036854775808 → parseUint10 a l = .ok (val a l)
  | [], _, _, _ => rfl
  | c :: l, a, h, hv => by
    have hc := h c (by simp)
    have hge := val_ge (a * 10 + (c.toNat - 48)) l
    have hv' : val (a * 10 + (c.toNat - 48)) l ≤ 9223372036854775808 := hv
    rw [parseUint10, if_pos (show 48 ≤ c.toNat ∧ c.toNat ≤ 57 from hc), if_neg (by omega), if_neg (by omega)]
    exact parse_digs l _ (fun x hx => h x (by simp [hx])) hv'
theorem digit_byte {d : Int} (h0 : 0 ≤ d) (h1 : d < 10) : mkBytes [IntKind.u8.wrap (IntKind.i64.wrap (48 + d))] = bs [UInt8.ofNat (48 + d.toNat)] := by
  obtain ⟨k, rfl⟩ := Int.eq_ofNat_of_zero_le h0
  have hk : k < 10 := by omega
  have : ∀ k : Fin 10, (mkBytes [IntKind.u8.wrap (IntKind.i64.wrap (48 + ((k.val : Nat) : Int)))]).data = (bs [UInt8.ofNat (48 + k.val)]).data := by decide
  exact ByteArray.ext (this ⟨k, hk⟩)
theorem dec_len {u : Nat} (h : u < 18446744073709551616) : (decDigits u).length ≤ 20 := by rw [decDigits_length]; exact nDigits_le20 u h
theorem mag_dec {u : Nat} (hu : u ≤ 9223372036854775808) : parseMag (decDigits u) = .ok u := by
  unfold parseMag
  rw [if_neg (dec_ne u), parse_digs _ _ (dec_digs u) (by rw [dec_val]; exact hu), dec_val]
theorem dec_head (u : Nat) : ∃ c r, decDigits u = c :: r ∧ isDig c := by
  cases h : decDigits u with
  | nil => exact (dec_ne u h).elim
  | cons c r => exact ⟨c, r, rfl, dec_digs u c (by rw [h]; simp)⟩
/-- What is told is read. -/
theorem parse_itoa {v : Int} (h : i64 v) : parseIntB 64 (itoa v) = .ok v := by
  rw [parseIntB_64]
  by_cases hv : v < 0
  · obtain ⟨u, rfl⟩ : ∃ u : Nat, v = -(u : Int) := ⟨v.natAbs, by omega⟩
    have h1 := h.1
    rw [itoa_neg u (by omega), atoiAll_minus, mag_dec (by omega)]
    show (if 9223372036854775808 < u then NumEnd.range else .ok (-(u : Int))) = _
    rw [if_neg (by omega)]
  · obtain ⟨u, rfl⟩ := Int.eq_ofNat_of_zero_le (show 0 ≤ v by omega)
    have h2 := h.2
    have hm := mag_dec (u := u) (by omega)
    obtain ⟨c, r, hcr, hc⟩ := dec_head u
    unfold isDig at hc
    rw [itoa_nonneg]
    rw [hcr] at hm ⊢
    rw [atoiAll_plain c r (by omega) (by omega), hm]
    show (if 9223372036854775808 ≤ u then NumEnd.range else .ok (u : Int)) = _
    rw [if_neg (by omega)]
theorem itoa_inj {a b : Int} (ha : i64 a) (hb : i64 b) (h : itoa a = itoa b) : a = b := by
  have h1 := parse_itoa ha
  rw [h, parse_itoa hb] at h1
  injection h1 with h1
  exact h1.symm
theorem itoa_len {v : Int} (h : i64 v) : (itoa v).length ≤ 21 := itoa_length_le v h.1 h.2
theorem nDigits19 {u : Nat} (h : u < 10000000000000000000) : nDigits u ≤ 19 := by
  have : ∀ (k u : Nat), u < 10 ^ (k + 1) → nDigits u ≤ k + 1 := by
    intro k
    induction k with
    | zero => intro u h; rw [nDigits_small (by simpa using h)]; exact Nat.le_refl _
    | succ k ih =>
      intro u h
      by_cases hu : u < 10
      · rw [nDigits_small hu]; omega
      · rw [nDigits_big hu]
        have := ih (u / 10) (by rw [Nat.pow_succ] at h; omega)
        omega
  exact this 18 u h
theorem smallN {a : Nat} (h : a ≤ 1000000) : decide (((a : Nat) : Int) > Int.ofNat (9223372036854775807 : Nat)) = false := decide_eq_false (by simp only [Int.ofNat_eq_natCast]; omega)
/-! ### numbers told -/
theorem digits_loop (n : Nat) (x0 : Int) : ∀ (u : Nat), u ≤ 9223372036854775808 → ∀ (m : Nat) (t : Bytes) (x : Int), x = (u : Int) ∨ x = -(u : Int) → i64 x → nDigits u ≤ m → t.length + nDigits u ≤ 100 →
    f22_4 n m x0 (bs t) x = some (bs ((if x0 < 0 then [45] else []) ++ (decDigits u ++ t))) := by
  intro u
  induction u using Nat.strongRecOn with
  | _ u ih =>
    intro hu m t x hx hi hm ht
    have hp := nDigits_pos u
    obtain ⟨m, rfl⟩ : ∃ j, m = j + 1 := ⟨m - 1, by omega⟩
    have hd : (u : Int).tmod 10 = ((u % 10 : Nat) : Int) := by rw [Int.tmod_eq_emod_of_nonneg (by omega)]; rfl
    have hq : (u : Int).tdiv 10 = ((u / 10 : Nat) : Int) := by rw [Int.tdiv_eq_ediv_of_nonneg (by omega)]; rfl
    have hqx : x.tdiv 10 = ((u / 10 : Nat) : Int) ∨ x.tdiv 10 = -((u / 10 : Nat) : Int) := by
      rcases hx with rfl | rfl
      · exact .inl hq
      · rw [Int.neg_tdiv, hq]; exact .inr rfl
    have hw : IntKind.i64.wrap (x.tdiv 10) = x.tdiv 10 := wI (by rcases hqx with h | h <;> rw [h] <;> omega) (by rcases hqx with h | h <;> rw [h] <;> omega)
    have fin : ∀ c : UInt8, c = UInt8.ofNat (48 + u % 10) →
        (bif decide (((((bs [c]).size + (bs t).size : Nat)) : Int) > Int.ofNat (9223372036854775807 : Nat)) then none
        else bif IntKind.i64.wrap (x.tdiv (10 : Int)) == (0 : Int) then
          bif decide (x0 < (0 : Int)) then
            bif decide (((((1 : Nat) + (bs [c] ++ bs t).size : Nat)) : Int) > Int.ofNat (9223372036854775807 : Nat)) then none else some (s22x0 ++ (bs [c] ++ bs t))
          else some (bs [c] ++ bs t)
        else f22_4 n m x0 (bs [c] ++ bs t) (IntKind.i64.wrap (x.tdiv (10 : Int)))) = some (bs ((if x0 < 0 then [45] else []) ++ (decDigits u ++ t))) := by
      intro c hc
      rw [bs_append, bs_size, bs_size, bs_size, smallN (by simp; omega), smallN (by simp; omega), hw]
      simp only [cond_false]
      by_cases h : u < 10
      · have e0 : x.tdiv 10 = 0 := by rcases hqx with h1 | h1 <;> rw [h1] <;> omega
        have ec : c = UInt8.ofNat (48 + u) := by rw [hc, Nat.mod_eq_of_lt h]
        rw [e0, beq_self_eq_true, cond_true, decDigits, dif_pos h, ec]
        by_cases h0 : x0 < 0
        · rw [decide_eq_true h0, if_pos h0, cond_true]
          exact congrArg some (bs_append [45] _)
        · rw [decide_eq_false h0, if_neg h0]
          rfl
      · have e0 : x.tdiv 10 ≠ 0 := by rcases hqx with h1 | h1 <;> rw [h1] <;> omega
        rw [beq_false_of_ne e0, cond_false, ih (u / 10) (by omega) (by omega) m ([c] ++ t) (x.tdiv 10) hqx ⟨by rcases hqx with h1 | h1 <;> rw [h1] <;> omega, by rcases hqx with h1 | h1 <;> rw [h1] <;> omega⟩
          (by rw [nDigits_big h] at hm; omega) (by rw [nDigits_big h] at ht; rw [List.length_append]; simp only [List.length_singleton]; omega), show decDigits u = decDigits (u / 10) ++ [UInt8.ofNat (48 + u % 10)] by rw [decDigits, dif_neg h], hc, List.append_assoc]
    rw [f22_4_eq]
    by_cases hneg : x.tmod 10 < 0
    · have e : IntKind.i64.wrap (0 - x.tmod 10) = ((u % 10 : Nat) : Int) := by
        rcases hx with rfl | rfl
        · rw [hd] at hneg; omega
        · rw [Int.neg_tmod, hd, wI (by omega) (by omega)]; omega
      rw [decide_eq_true hneg, cond_true, e, digit_byte (by omega) (by omega)]
      exact fin _ rfl
    · have e : x.tmod 10 = ((u % 10 : Nat) : Int) := by
        rcases hx with rfl | rfl
        · exact hd
        · rw [Int.neg_tmod, hd] at hneg ⊢; omega
      rw [decide_eq_false hneg, cond_false, e, digit_byte (by omega) (by omega)]
      exact fin _ rfl
theorem digits_eq {n : Nat} (hn : 25 ≤ n) {v : Int} (h : i64 v) : f22 n v = some (bs (itoa v)) := by
  rw [f22_eq, bs_empty]
  have hl := nDigits_le20 v.natAbs (by have := h.1; have := h.2; omega)
  rw [digits_loop n v v.natAbs (by have := h.1; have := h.2; omega) n [] v (by omega) h (by omega) (by simp; omega), List.append_nil]
  unfold itoa
  by_cases hv : v < 0
  · rw [if_pos hv, if_pos hv]; rfl
  · rw [if_neg hv, if_neg hv, show v.natAbs = v.toNat by omega]; rfl
theorem format_eq (n : Nat) {v : Int} (h : i64 v) : f18L n v 10 = some (bs (itoa v)) := by
  show formatF v 10 = _
  unfold formatF itoaF
  rw [if_pos rfl, if_pos h]
  rfl
/-! ### numbers read -/
theorem eqBA (a b : Bytes) : ((bs a).toList == (bs b).toList) = decide (a = b) := by
  rw [bs_toList, bs_toList]
  by_cases h : a = b
  · rw [decide_eq_true h, h, beq_self_eq_true]
  · rw [decide_eq_false h, beq_false_of_ne h]
theorem num_go (n : Nat) {w : Bytes} (hw : w.length ≤ 281474976710656) : (∃ v, i64 v ∧ w = itoa v ∧ f40 n (bs w) = some (v, true)) ∨ ((∃ v, f40 n (bs w) = some (v, false)) ∧ ∀ u, i64 u → w ≠ itoa u) := by
  rw [f40_eq]
  have hp : f55L n (bs w) 10 64 = match parseIntB 64 w with
    | .ok v => some (v, false)
    | .range => some (intSat 64 w, true)
    | _ => some (0, true) := by
    show parseF (bs w) 10 64 = _
    unfold parseF
    rw [if_pos ⟨rfl, rfl, by rw [bs_size]; exact hw⟩]
    rfl
  rw [hp]
  cases h : parseIntB 64 w with
  | ok v =>
    have hb := parseIntB_bounds h
    have hv : i64 v := ⟨by have := hb.1; omega, by have := hb.2; omega⟩
    simp only [Option.bind_some, Bool.not_false, cond_true]
    rw [format_eq n hv]
    simp only [Option.bind_some]
    rw [eqBA]
    by_cases e : itoa v = w
    · exact .inl ⟨v, hv, e.symm, by rw [decide_eq_true e]⟩
    · refine .inr ⟨⟨v, by rw [decide_eq_false e]⟩, fun u hu hw => ?_⟩
      rw [hw, parse_itoa hu] at h
      injection h with h
      rw [h] at hw
      exact e hw.symm
  | range => exact .inr ⟨⟨_, rfl⟩, fun u hu hw => by rw [hw, parse_itoa hu] at h; cases h⟩
  | _ => exact .inr ⟨⟨_, rfl⟩, fun u hu hw => by rw [hw, parse_itoa hu] at h; cases h⟩
theorem in_len {l : Bytes} {i j : Nat} (h : i + (j + 1) = l.length) : decide (((i : Nat) : Int) < ((bs l).size : Int)) = true ∧ decide (0 ≤ ((i : Nat) : Int) ∧ ((i : Nat) : Int) < ((bs l).size : Int)) = true := by
  rw [bs_size]
  exact ⟨decide_eq_true (by omega), decide_eq_true (by omega)⟩
theorem at_len {l : Bytes} {i : Nat} (h : i = l.length) : decide (((i : Nat) : Int) < ((bs l).size : Int)) = false := by
  rw [bs_size]
  exact decide_eq_false (by omega)
theorem castN {i : Nat} (h : i ≤ 1000000000000000) : IntKind.i64.wrap (((i : Nat) : Int) + 1) = ((i + 1 : Nat) : Int) := by rw [wI (by omega) (by omega)]; omega
theorem byte_mid {l1 l2 : Bytes} {c : UInt8} : byteAt (bs (l1 ++ c :: l2)) ((l1.length : Nat) : Int) = ((c.toNat : Nat) : Int) := by
  rw [bs_byte]
  simp
theorem val_snoc (a : Nat) (l : Bytes) (c : UInt8) : val a (l ++ [c]) = val a l * 10 + (c.toNat - 48) := by rw [val_append]; rfl
theorem u8_dig {c : UInt8} (h : isDig c) : IntKind.i64.wrap (IntKind.u8.wrap (((c.toNat : Nat) : Int) - 48)) = ((c.toNat - 48 : Nat) : Int) := by
  unfold isDig at h
  have e : IntKind.u8.wrap (((c.toNat : Nat) : Int) - 48) = ((c.toNat - 48 : Nat) : Int) := by
    rw [IntKind.wrap_u8]
    omega
  rw [e, wI (by omega) (by omega)]

theorem num_loop {n : Nat} (hn : 25 ≤ n) (w t : Bytes) (sg : Int) (ht : t.length ≤ 1000) : ∀ (j i M : Nat) (x : Int), i + j = t.length → j + 1 ≤ M → i64 x →
    ∃ v b, f27_18 n M (bs w) (bs t) sg x ((i : Nat) : Int) = some (v, b) ∧ (b = true → i64 v ∧ w = itoa v) := by
  intro j
  induction j with
  | zero =>
    intro i M x hi hM hx
    obtain ⟨M, rfl⟩ : ∃ q, M = q + 1 := ⟨M - 1, by omega⟩
    rw [f27_18_eq, at_len (by omega), cond_false, digits_eq hn hx]
    simp only [Option.bind_some]
    rw [eqBA]
    exact ⟨_, _, rfl, fun h => ⟨hx, (of_decide_eq_true h).symm⟩⟩
  | succ j ih =>
    intro i M x hi hM hx
    obtain ⟨M, rfl⟩ : ∃ q, M = q + 1 := ⟨M - 1, by omega⟩
    obtain ⟨h1, h2⟩ := in_len (l := t) (i := i) (j := j) (by omega)
    rw [f27_18_eq, h1, h2, castN (by omega)]
    simp only [cond_true]
    cases decide (byteAt (bs t) ((i : Nat) : Int) < 48) with
    | true => exact ⟨_, _, rfl, fun h => by cases h⟩
    | false =>
      cases decide (byteAt (bs t) ((i : Nat) : Int) > 57) with
      | true => exact ⟨_, _, rfl, fun h => by cases h⟩
      | false => exact ih (i + 1) M _ (by omega) (by omega) (wI_i64 _)
theorem num_loop_dec (n : Nat) (w t : Bytes) (sg : Int) (ht : t.length ≤ 1000) (hd : ∀ c ∈ t, isDig c) (hs : (sg = 1 ∧ val 0 t ≤ 9223372036854775807) ∨ (sg = -1 ∧ val 0 t ≤ 9223372036854775808)) : ∀ (l2 l1 : Bytes) (M : Nat), t = l1 ++ l2 → l2.length + 1 ≤ M →
    f27_18 n M (bs w) (bs t) sg (sg * ((val 0 l1 : Nat) : Int)) ((l1.length : Nat) : Int) = (f22 n (sg * ((val 0 t : Nat) : Int))).bind fun r1 => some (sg * ((val 0 t : Nat) : Int), ByteArray.toList r1 == (bs w).toList) := by
  intro l2
  induction l2 with
  | nil =>
    intro l1 M e hM
    obtain ⟨M, rfl⟩ : ∃ q, M = q + 1 := ⟨M - 1, by omega⟩
    rw [List.append_nil] at e
    subst e
    rw [f27_18_eq, at_len rfl, cond_false]
  | cons c l2 ih =>
    intro l1 M e hM
    obtain ⟨M, rfl⟩ : ∃ q, M = q + 1 := ⟨M - 1, by simp at hM; omega⟩
    have hlen : t.length = l1.length + (l2.length + 1) := by rw [e]; simp
    have hc : isDig c := hd c (by rw [e]; simp)
    have hc2 := hc
    unfold isDig at hc2
    obtain ⟨h1, h2⟩ := in_len (l := t) (i := l1.length) (j := l2.length) (by omega)
    have hb : byteAt (bs t) ((l1.length : Nat) : Int) = ((c.toNat : Nat) : Int) := by rw [e]; exact byte_mid
    have hv := val_snoc 0 l1 c
    have hge : val 0 (l1 ++ [c]) ≤ val 0 t := by
      rw [e, show l1 ++ c :: l2 = (l1 ++ [c]) ++ l2 by simp, val_append 0 (l1 ++ [c]) l2]
      exact val_ge _ _
    rw [f27_18_eq, h1, h2, hb, castN (by omega), decide_eq_false (show ¬ ((c.toNat : Nat) : Int) < 48 by omega), decide_eq_false (show ¬ ((c.toNat : Nat) : Int) > 57 by omega), u8_dig hc]
    simp only [cond_true, cond_false]
    have e3 : IntKind.i64.wrap (IntKind.i64.wrap (10 * (sg * ((val 0 l1 : Nat) : Int))) + IntKind.i64.wrap (sg * ((c.toNat - 48 : Nat) : Int))) = sg * ((val 0 (l1 ++ [c]) : Nat) : Int) := by
      rcases hs with ⟨rfl, hs⟩ | ⟨rfl, hs⟩
      · rw [wI (n := 10 * (1 * ((val 0 l1 : Nat) : Int))) (by omega) (by omega), wI (n := 1 * ((c.toNat - 48 : Nat) : Int)) (by omega) (by omega), wI (by omega) (by omega)]
        omega
      · rw [wI (n := 10 * (-1 * ((val 0 l1 : Nat) : Int))) (by omega) (by omega), wI (n := -1 * ((c.toNat - 48 : Nat) : Int)) (by omega) (by omega), wI (by omega) (by omega)]
        omega
    rw [e3]
    have := ih (l1 ++ [c]) M (by rw [e]; simp) (by simp at hM; omega)
    rw [show (l1 ++ [c]).length = l1.length + 1 by simp] at this
    exact this
/-- The document's number: it is one where it is told so. -/
theorem num_ref {n : Nat} (hn : 100 ≤ n) (w : Bytes) : ∃ v b, f27 n (bs w) = some (v, b) ∧ (b = true → i64 v ∧ w = itoa v) := by
  have h0 : i64 0 := ⟨by decide, by decide⟩
  rw [f27_eq, bs_empty, eqBA]
  have plain : ∀ t : Bytes, ∃ v b, (bif ((bs t).toList == (bs []).toList) then some ((0 : Int), false) else bif decide (((bs t).size : Int) > (19 : Int)) then some ((0 : Int), false) else f27_18 n n (bs w) (bs t) (if t = w then 1 else -1) (0 : Int) (0 : Int)) = some (v, b) ∧ (b = true → i64 v ∧ w = itoa v) := by
    intro t
    cases (bs t).toList == (bs []).toList with
    | true => exact ⟨_, _, rfl, fun h => by cases h⟩
    | false =>
      by_cases hl : ((bs t).size : Int) > 19
      · rw [decide_eq_true hl]; exact ⟨_, _, rfl, fun h => by cases h⟩
      · rw [decide_eq_false hl]
        rw [bs_size] at hl
        exact num_loop (by omega) w t _ (by omega) t.length 0 n 0 (by omega) (by omega) h0
  cases w with
  | nil =>
    rw [decide_eq_true (rfl : ([] : Bytes) = [])]
    exact ⟨_, _, rfl, fun h => by cases h⟩
  | cons c r =>
    rw [decide_eq_false (by simp)]
    simp only [Bool.not_false, cond_true]
    have hz : decide ((0 : Int) ≤ (0 : Int) ∧ (0 : Int) < ((bs (c :: r)).size : Int)) = true := decide_eq_true (by rw [bs_size, List.length_cons]; omega)
    have h1 : decide ((0 : Int) ≤ (1 : Int) ∧ (1 : Int) ≤ ((bs (c :: r)).size : Int) ∧ ((bs (c :: r)).size : Int) ≤ ((bs (c :: r)).size : Int)) = true := decide_eq_true (by rw [bs_size, List.length_cons]; omega)
    rw [hz, h1]
    simp only [cond_true]
    cases byteAt (bs (c :: r)) (0 : Int) == (45 : Int) with
    | true =>
      have e : (bs (c :: r)).extract 1 (((bs (c :: r)).size : Int)).toNat = bs r := by
        rw [bs_extract, bs_size]
        congr 1
        simp
      rw [e]
      have := plain r
      rw [if_neg (fun h => by have := congrArg List.length h; simp at this)] at this
      exact this
    | false =>
      have := plain (c :: r)
      rw [if_pos rfl, eqBA, decide_eq_false (by simp)] at this
      exact this
theorem num_ref_itoa {n : Nat} (hn : 100 ≤ n) {v : Int} (h : i64 v) : f27 n (bs (itoa v)) = some (v, true) := by
  have h1 := h.1
  have h2 := h.2
  have ev : f22 n v = some (bs (itoa v)) := digits_eq (by omega) h
  by_cases hv : v < 0
  · obtain ⟨u, rfl⟩ : ∃ u : Nat, v = -(u : Int) := ⟨v.natAbs, by omega⟩
    have hl := decDigits_length u
    have h19 := nDigits19 (u := u) (by omega)
    have hp := nDigits_pos u
    have hr := num_loop_dec n (itoa (-(u : Int))) (decDigits u) (-1) (by omega) (dec_digs u) (.inr ⟨rfl, by rw [dec_val]; omega⟩) (decDigits u) [] n rfl (by omega)
    rw [dec_val, show (-1 : Int) * ((u : Nat) : Int) = -(u : Int) by omega, ev] at hr
    simp only [Option.bind_some, beq_self_eq_true] at hr
    rw [itoa_neg u (by omega)] at hr ⊢
    rw [f27_eq, bs_empty, eqBA, decide_eq_false (by simp)]
    simp only [Bool.not_false, cond_true]
    rw [decide_eq_true (show (0 : Int) ≤ (0 : Int) ∧ (0 : Int) < ((bs (45 :: decDigits u)).size : Int) by rw [bs_size, List.length_cons]; omega),
      decide_eq_true (show (0 : Int) ≤ (1 : Int) ∧ (1 : Int) ≤ ((bs (45 :: decDigits u)).size : Int) ∧ ((bs (45 :: decDigits u)).size : Int) ≤ ((bs (45 :: decDigits u)).size : Int) by rw [bs_size, List.length_cons]; omega),
      show (byteAt (bs (45 :: decDigits u)) (0 : Int) == (45 : Int)) = true from rfl]
    have e : (bs (45 :: decDigits u)).extract 1 (((bs (45 :: decDigits u)).size : Int)).toNat = bs (decDigits u) := by
      rw [bs_extract, bs_size]
      congr 1
      simp
    rw [e, eqBA, decide_eq_false (dec_ne u), decide_eq_false (show ¬ ((bs (decDigits u)).size : Int) > 19 by rw [bs_size]; omega)]
    simp only [cond_true, cond_false]
    exact hr
  · obtain ⟨u, rfl⟩ := Int.eq_ofNat_of_zero_le (show 0 ≤ v by omega)
    have hl := decDigits_length u
    have h19 := nDigits19 (u := u) (by omega)
    have hp := nDigits_pos u
    have hr := num_loop_dec n (itoa (u : Int)) (decDigits u) 1 (by omega) (dec_digs u) (.inl ⟨rfl, by rw [dec_val]; omega⟩) (decDigits u) [] n rfl (by omega)
    rw [dec_val, show (1 : Int) * ((u : Nat) : Int) = (u : Int) by omega, ev] at hr
    simp only [Option.bind_some, beq_self_eq_true] at hr
    rw [itoa_nonneg] at hr ⊢
    obtain ⟨c, r, hcr, hc⟩ := dec_head u
    unfold isDig at hc
    rw [hcr] at hr hl ⊢
    rw [f27_eq, bs_empty, eqBA, decide_eq_false (by simp)]
    simp only [Bool.not_false, cond_true]
    rw [decide_eq_true (show (0 : Int) ≤ (0 : Int) ∧ (0 : Int) < ((bs (c :: r)).size : Int) by rw [bs_size, List.length_cons]; omega),
      show (byteAt (bs (c :: r)) (0 : Int) == (45 : Int)) = false from beq_false_of_ne (by show ((c.toNat : Nat) : Int) ≠ 45; omega),
      decide_eq_false (show ¬ ((bs (c :: r)).size : Int) > 19 by rw [bs_size]; omega)]
    simp only [cond_true, cond_false]
    exact hr
/-- Both read the same numbers. -/
theorem num_both {n : Nat} (hn : 100 ≤ n) {w : Bytes} (hw : w.length ≤ 281474976710656) : (∃ v, i64 v ∧ w = itoa v ∧ f40 n (bs w) = some (v, true) ∧ f27 n (bs w) = some (v, true)) ∨ (∃ v u, f40 n (bs w) = some (v, false) ∧ f27 n (bs w) = some (u, false)) := by
  rcases num_go n hw with ⟨v, hv, e, h1⟩ | ⟨⟨v, h1⟩, hno⟩
  · exact .inl ⟨v, hv, e, h1, by rw [e]; exact num_ref_itoa hn hv⟩
  · obtain ⟨u, b, h2, h3⟩ := num_ref hn w
    cases b with
    | true => exact (hno u (h3 rfl).1 (h3 rfl).2).elim
    | false => exact .inr ⟨v, u, h1, h2⟩
end Go.Proofs.YtfmbgnbdolidjaaDoor
