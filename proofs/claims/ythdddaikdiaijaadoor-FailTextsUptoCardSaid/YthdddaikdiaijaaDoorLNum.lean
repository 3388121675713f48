/- Texts as lists of bytes: digits and numbers. -/
import Derived.Test.YthdddaikdiaijaaDoorLChecks
import Derived.Test.YthdddaikdiaijaaDoorGc
import Derived.Lib.ItoaLen
import Derived.Lib.ItoaMem
import Derived.Lib.AtoiAllCases
import Derived.Lib.ParseIntBTie
import Derived.Lib.SplitLaws
namespace Go.Proofs.YthdddaikdiaijaaDoor
open Go.Rf Go.Lib
abbrev Bytes := List UInt8
def bs (l : Bytes) : ByteArray := ⟨l.toArray⟩
theorem bs_of (s : ByteArray) : ∃ l, s = bs l := ⟨s.data.toList, by obtain ⟨⟨l⟩⟩ := s; rfl⟩
theorem bs_list (l : Bytes) : (bs l).data.toList = l := rfl
theorem bs_toList (l : Bytes) : (bs l).toList = l := by rw [toList_data]; rfl
theorem bs_size (l : Bytes) : (bs l).size = l.length := by rw [size_eq]; rfl
theorem bs_inj {a b : Bytes} (h : bs a = bs b) : a = b := by
  have := congrArg (fun s : ByteArray => s.data.toList) h
  exact this
theorem bs_append (a b : Bytes) : bs a ++ bs b = bs (a ++ b) := by
  apply ByteArray.ext
  simp [bs]
theorem bs_extract (l : Bytes) (i j : Nat) : (bs l).extract i j = bs ((l.drop i).take (j - i)) := by
  obtain ⟨k, hk⟩ := bs_of ((bs l).extract i j)
  have := extract_data (bs l) i j
  rw [hk, bs_list, bs_list] at this
  rw [hk, this]
theorem bs_empty : ByteArray.empty = bs [] := rfl
theorem bs_byte (l : Bytes) (i : Nat) : byteAt (bs l) ((i : Nat) : Int) = ((l.getD i 0).toNat : Int) := rfl
theorem split_byte (c : UInt8) : ∀ l : Bytes, c ∉ l ∨ ∃ a b, l = a ++ c :: b ∧ c ∉ a
  | [] => .inl (by simp)
  | x :: l => by
    by_cases h : x = c
    · exact .inr ⟨[], l, by rw [h]; rfl, by simp⟩
    · rcases split_byte c l with h1 | ⟨a, b, e, h1⟩
      · exact .inl (by simp [h1]; exact fun e => h e.symm)
      · exact .inr ⟨x :: a, b, by rw [e]; rfl, by simp [h1]; exact fun e => h e.symm⟩
def isDig (c : UInt8) : Prop := 48 ≤ c.toNat ∧ c.toNat ≤ 57
def val : Nat → Bytes → Nat
  | a, [] => a
  | a, c :: l => val (a * 10 + (c.toNat - 48)) l
theorem val_append : ∀ (a : Nat) (l1 l2 : Bytes), val a (l1 ++ l2) = val (val a l1) l2
  | _, [], _ => rfl
  | _, _ :: l1, l2 => val_append _ l1 l2
theorem val_ge : ∀ (a : Nat) (l : Bytes), a ≤ val a l
  | _, [] => Nat.le_refl _
  | _, _ :: l => Nat.le_trans (by omega) (val_ge _ l)
theorem dig_nat {d : Nat} (h : d < 10) : (UInt8.ofNat (48 + d)).toNat = 48 + d := by
  rw [UInt8.toNat_ofNat']
  omega
theorem dec_digs (u : Nat) : ∀ c ∈ decDigits u, isDig c := by
  induction u using Nat.strongRecOn with
  | _ u ih =>
    rw [decDigits]
    split
    · rename_i h
      intro c hc
      rw [List.mem_singleton] at hc
      subst hc
      rw [isDig, dig_nat h]
      omega
    · rename_i h
      intro c hc
      rcases List.mem_append.1 hc with hc | hc
      · exact ih (u / 10) (by omega) c hc
      · rw [List.mem_singleton] at hc
        subst hc
        rw [isDig, dig_nat (by omega)]
        omega
theorem dec_val (u : Nat) : val 0 (decDigits u) = u := by
  induction u using Nat.strongRecOn with
  | _ u ih =>
    rw [decDigits]
    split
    · rename_i h
      show 0 * 10 + ((UInt8.ofNat (48 + u)).toNat - 48) = u
      rw [dig_nat h]
      omega
    · rename_i h
      rw [val_append, ih (u / 10) (by omega)]
      show u / 10 * 10 + ((UInt8.ofNat (48 + u % 10)).toNat - 48) = u
      rw [dig_nat (by omega)]
      omega
theorem dec_ne (u : Nat) : decDigits u ≠ [] := fun h => by
  have := decDigits_length u
  rw [h] at this
  have := nDigits_pos u
  simp at *
  omega
theorem parse_digs : ∀ (l : Bytes) (a : Nat), (∀ c ∈ l, isDig c) → val a l ≤ 9223372036854775808 → parseUint10 a l = .ok (val a l)
  | [], _, _, _ => rfl
  | c :: l, a, h, hv => by
    have hc := h c (by simp)
    have hge := val_ge (a * 10 + (c.toNat - 48)) l
    have hv' : val (a * 10 + (c.toNat - 48)) l ≤ 9223372036854775808 := hv
    rw [parseUint10, if_pos (show 48 ≤ c.toNat ∧ c.toNat ≤ 57 from hc), if_neg (by omega), if_neg (by omega)]
    exact parse_digs l _ (fun x hx => h x (by simp [hx])) hv'
theorem digit_byte {d : Int} (h0 : 0 ≤ d) (h1 : d < 10) : mkBytes [IntKind.u8.wrap (IntKind.i64.wrap (48 + d))] = bs [UInt8.ofNat (48 + d.toNat)] := by
  obtain ⟨k, rfl⟩ := Int.eq_ofNat_of_zero_le h0
  have hk : k < 10 := by omega
  have : ∀ k : Fin 10, (mkBytes [IntKind.u8.wrap (IntKind.i64.wrap (48 + ((k.val : Nat) : Int)))]).data = (bs [UInt8.ofNat (48 + k.val)]).data := by decide
  exact ByteArray.ext (this ⟨k, hk⟩)
theorem dec_len {u : Nat} (h : u < 18446744073709551616) : (decDigits u).length ≤ 20 := by rw [decDigits_length]; exact nDigits_le20 u h
theorem mag_dec {u : Nat} (hu : u ≤ 9223372036854775808) : parseMag (decDigits u) = .ok u := by
  unfold parseMag
  rw [if_neg (dec_ne u), parse_digs _ _ (dec_digs u) (by rw [dec_val]; exact hu), dec_val]
theorem dec_head (u : Nat) : ∃ c r, decDigits u = c :: r ∧ isDig c := by
  cases h : decDigits u with
  | nil => exact (dec_ne u h).elim
  | cons c r => exact ⟨c, r, rfl, dec_digs u c (by rw [h]; simp)⟩
/-- What is told is read. -/
theorem parse_itoa {v : Int} (h : i64 v) : parseIntB 64 (itoa v) = .ok v := by
  rw [parseIntB_64]
  by_cases hv : v < 0
  · obtain ⟨u, rfl⟩ : ∃ u : Nat, v = -(u : Int) := ⟨v.natAbs, by omega⟩
    have h1 := h.1
    rw [itoa_neg u (by omega), atoiAll_minus, mag_dec (by omega)]
    show (if 9223372036854775808 < u then NumEnd.range else .ok (-(u : Int))) = _
    rw [if_neg (by omega)]
  · obtain ⟨u, rfl⟩ := Int.eq_ofNat_of_zero_le (show 0 ≤ v by omega)
    have h2 := h.2
    have hm := mag_dec (u := u) (by omega)
    obtain ⟨c, r, hcr, hc⟩ := dec_head u
    unfold isDig at hc
    rw [itoa_nonneg]
    rw [hcr] at hm ⊢
    rw [atoiAll_plain c r (by omega) (by omega), hm]
    show (if 9223372036854775808 ≤ u then NumEnd.range else .ok (u : Int)) = _
    rw [if_neg (by omega)]
theorem itoa_inj {a b : Int} (ha : i64 a) (hb : i64 b) (h : itoa a = itoa b) : a = b := by
  have h1 := parse_itoa ha
  rw [h, parse_itoa hb] at h1
  injection h1 with h1
  exact h1.symm
theorem itoa_len {v : Int} (h : i64 v) : (itoa v).length ≤ 21 := itoa_length_le v h.1 h.2
theorem nDigits19 {u : Nat} (h : u < 10000000000000000000) : nDigits u ≤ 19 := by
  have : ∀ (k u : Nat), u < 10 ^ (k + 1) → nDigits u ≤ k + 1 := by
    intro k
    induction k with
    | zero => intro u h; rw [nDigits_small (by simpa using h)]; exact Nat.le_refl _
    | succ k ih =>
      intro u h
      by_cases hu : u < 10
      · rw [nDigits_small hu]; omega
      · rw [nDigits_big hu]
        have := ih (u / 10) (by rw [Nat.pow_succ] at h; omega)
        omega
  exact this 18 u h
theorem smallN {a : Nat} (h : a ≤ 1000000) : decide (((a : Nat) : Int) > Int.ofNat (9223372036854775807 : Nat)) = false := decide_eq_false (by simp only [Int.ofNat_eq_natCast]; omega)
/-- A number without a sign. -/
theorem number_eq : ∀ (u : Nat), u ≤ 9223372036854775807 → ∀ k, nDigits u ≤ k → f28 k (u : Int) = some (bs (decDigits u)) := by
  intro u
  induction u using Nat.strongRecOn with
  | _ u ih =>
    intro hu k hk
    have hp := nDigits_pos u
    obtain ⟨k, rfl⟩ : ∃ j, k = j + 1 := ⟨k - 1, by omega⟩
    rw [f28_eq, decide_eq_true (show (u : Int) ≥ 0 by omega)]
    simp only [cond_true]
    by_cases h : u < 10
    · rw [decide_eq_true (show (u : Int) < 10 by omega), decDigits, dif_pos h, digit_byte (by omega) (by omega)]
      rfl
    · rw [decide_eq_false (show ¬ (u : Int) < 10 by omega)]
      simp only [cond_false]
      rw [f28_7_eq, decide_eq_true (show (u : Int) ≥ 10 by omega), both_self]
      simp only [cond_true]
      have e1 : IntKind.i64.wrap ((u : Int).tdiv 10) = ((u / 10 : Nat) : Int) := by
        rw [show (u : Int).tdiv 10 = ((u / 10 : Nat) : Int) by rw [Int.tdiv_eq_ediv_of_nonneg (by omega)]; rfl]
        exact wI (by omega) (by omega)
      have e2 : (u : Int).tmod 10 = ((u % 10 : Nat) : Int) := by rw [Int.tmod_eq_emod_of_nonneg (by omega)]; rfl
      rw [e1, e2, ih (u / 10) (by omega) (by omega) k (by rw [nDigits_big h] at hk; omega), digit_byte (by omega) (by omega)]
      simp only [Option.bind_some]
      have hl := decDigits_length (u / 10)
      have hn := nDigits_le20 (u / 10) (by omega)
      rw [bs_size, bs_size, smallN (by simp; omega)]
      simp only [cond_false]
      rw [bs_append, show decDigits u = decDigits (u / 10) ++ [UInt8.ofNat (48 + u % 10)] by rw [decDigits, dif_neg h]]
      rfl
/-- A number with a sign. -/
theorem number_neg : ∀ (u : Nat), 1 ≤ u → u ≤ 9223372036854775808 → ∀ k, nDigits u ≤ k → f28 k (-(u : Int)) = some (bs (45 :: decDigits u)) := by
  intro u
  induction u using Nat.strongRecOn with
  | _ u ih =>
    intro h1 hu k hk
    have hp := nDigits_pos u
    obtain ⟨k, rfl⟩ : ∃ j, k = j + 1 := ⟨k - 1, by omega⟩
    rw [f28_eq, decide_eq_false (show ¬ (-(u : Int)) ≥ 0 by omega)]
    simp only [cond_false]
    rw [f28_7_eq, decide_eq_false (show ¬ (-(u : Int)) ≥ 10 by omega)]
    simp only [cond_false]
    by_cases h : u < 10
    · rw [decide_eq_true (show (-(u : Int)) > -10 by omega), show (48 : Int) - -(u : Int) = 48 + (u : Int) by omega, digit_byte (by omega) (by omega), decDigits, dif_pos h]
      exact congrArg some (bs_append [45] _)
    · have e1 : IntKind.i64.wrap ((-(u : Int)).tdiv 10) = -((u / 10 : Nat) : Int) := by
        rw [Int.neg_tdiv, show (u : Int).tdiv 10 = ((u / 10 : Nat) : Int) by rw [Int.tdiv_eq_ediv_of_nonneg (by omega)]; rfl]
        exact wI (by omega) (by omega)
      have e2 : (48 : Int) - (-(u : Int)).tmod 10 = 48 + ((u % 10 : Nat) : Int) := by
        rw [Int.neg_tmod, show (u : Int).tmod 10 = ((u % 10 : Nat) : Int) by rw [Int.tmod_eq_emod_of_nonneg (by omega)]; rfl]
        omega
      rw [decide_eq_false (show ¬ (-(u : Int)) > -10 by omega), both_self, e1, e2, ih (u / 10) (by omega) (by omega) (by omega) k (by rw [nDigits_big h] at hk; omega), digit_byte (by omega) (by omega)]
      simp only [Option.bind_some, cond_false]
      have hl := decDigits_length (u / 10)
      have hn := nDigits_le20 (u / 10) (by omega)
      rw [bs_size, bs_size, smallN (by simp; omega)]
      simp only [cond_false]
      rw [bs_append, show decDigits u = decDigits (u / 10) ++ [UInt8.ofNat (48 + u % 10)] by rw [decDigits, dif_neg h]]
      rfl
theorem number_all {n : Nat} (hn : 20 ≤ n) {v : Int} (h : i64 v) : f28 n v = some (bs (itoa v)) := by
  have h1 := h.1
  have h2 := h.2
  by_cases hv : v < 0
  · obtain ⟨u, rfl⟩ : ∃ u : Nat, v = -(u : Int) := ⟨v.natAbs, by omega⟩
    rw [itoa_neg u (by omega)]
    exact number_neg u (by omega) (by omega) n (Nat.le_trans (nDigits_le20 u (by omega)) hn)
  · obtain ⟨u, rfl⟩ := Int.eq_ofNat_of_zero_le (show 0 ≤ v by omega)
    rw [itoa_nonneg]
    exact number_eq u (by omega) n (Nat.le_trans (nDigits_le20 u (by omega)) hn)
theorem eqBA (a b : Bytes) : ((bs a).toList == (bs b).toList) = decide (a = b) := by
  rw [bs_toList, bs_toList]
  by_cases h : a = b
  · rw [decide_eq_true h, h, beq_self_eq_true]
  · rw [decide_eq_false h, beq_false_of_ne h]
theorem in_len {l : Bytes} {i j : Nat} (h : i + (j + 1) = l.length) : decide (((i : Nat) : Int) < ((bs l).size : Int)) = true ∧ decide (0 ≤ ((i : Nat) : Int) ∧ ((i : Nat) : Int) < ((bs l).size : Int)) = true := by
  rw [bs_size]
  exact ⟨decide_eq_true (by omega), decide_eq_true (by omega)⟩
theorem at_len {l : Bytes} {i : Nat} (h : i = l.length) : decide (((i : Nat) : Int) < ((bs l).size : Int)) = false := by
  rw [bs_size]
  exact decide_eq_false (by omega)
theorem castN {i : Nat} (h : i ≤ 1000000000000000) : IntKind.i64.wrap (((i : Nat) : Int) + 1) = ((i + 1 : Nat) : Int) := by rw [wI (by omega) (by omega)]; omega
theorem byte_mid {l1 l2 : Bytes} {c : UInt8} : byteAt (bs (l1 ++ c :: l2)) ((l1.length : Nat) : Int) = ((c.toNat : Nat) : Int) := by
  rw [bs_byte]
  simp
theorem val_snoc (a : Nat) (l : Bytes) (c : UInt8) : val a (l ++ [c]) = val a l * 10 + (c.toNat - 48) := by rw [val_append]; rfl
theorem u8_dig {c : UInt8} (h : isDig c) : IntKind.i64.wrap (IntKind.u8.wrap (((c.toNat : Nat) : Int) - 48)) = ((c.toNat - 48 : Nat) : Int) := by
  unfold isDig at h
  have e : IntKind.u8.wrap (((c.toNat : Nat) : Int) - 48) = ((c.toNat - 48 : Nat) : Int) := by
    rw [IntKind.wrap_u8]
    omega
  rw [e, wI (by omega) (by omega)]

abbrev Ws := List Bytes
/-- The words behind one, each behind a space. -/
def tl : Ws → Bytes
  | [] => []
  | w :: r => 32 :: (w ++ tl r)
def jn : Ws → Bytes
  | [] => []
  | w :: r => w ++ tl r
def NoSp (ws : Ws) : Prop := ∀ w ∈ ws, (32 : UInt8) ∉ w
theorem tl_append : ∀ a b : Ws, tl (a ++ b) = tl a ++ tl b
  | [], _ => rfl
  | w :: a, b => by simp [tl, tl_append a b]
theorem tl_len : ∀ ws : Ws, ws.length ≤ (tl ws).length
  | [] => Nat.le_refl _
  | w :: r => by have := tl_len r; simp [tl]; omega
theorem words_of : ∀ (N : Nat) (s : Bytes), s.length ≤ N → ∃ ws : Ws, ws ≠ [] ∧ NoSp ws ∧ s = jn ws := by
  intro N
  induction N with
  | zero =>
    intro s hs
    have : s = [] := List.eq_nil_of_length_eq_zero (by omega)
    subst this
    exact ⟨[[]], by simp, fun w hw => by rw [List.mem_singleton] at hw; subst hw; simp, rfl⟩
  | succ N ih =>
    intro s hs
    rcases split_byte 32 s with h | ⟨a, b, rfl, ha⟩
    · exact ⟨[s], by simp, fun w hw => by rw [List.mem_singleton] at hw; subst hw; exact h, by simp [jn, tl]⟩
    · obtain ⟨ws, h1, h2, h3⟩ := ih b (by simp at hs; omega)
      cases ws with
      | nil => exact (h1 rfl).elim
      | cons w r =>
        refine ⟨a :: w :: r, by simp, fun x hx => ?_, by rw [h3]; rfl⟩
        rcases List.mem_cons.1 hx with rfl | hx
        · exact ha
        · exact h2 x hx
theorem idx_none {c : UInt8} : ∀ {l : Bytes}, c ∉ l → index l [c] = -1
  | [], _ => rfl
  | x :: l, h => by
    simp only [List.mem_cons, not_or] at h
    have hp : ([c] : List UInt8).isPrefixOf (x :: l) = false := by simp [List.isPrefixOf, h.1]
    rw [index, hp, idx_none h.2]
    rfl
theorem idx_some {c : UInt8} : ∀ {a b : Bytes}, c ∉ a → index (a ++ c :: b) [c] = (a.length : Int)
  | [], b, _ => by
    show index (c :: b) [c] = 0
    rw [index]
    simp [List.isPrefixOf]
  | x :: a, b, h => by
    simp only [List.mem_cons, not_or] at h
    have hp : ([c] : List UInt8).isPrefixOf (x :: (a ++ c :: b)) = false := by simp [List.isPrefixOf, h.1]
    show index (x :: (a ++ c :: b)) [c] = _
    rw [index, hp, idx_some h.2]
    simp
theorem split_jn : ∀ ws : Ws, ws ≠ [] → NoSp ws → splitB (bs [32]) 0 (countB (bs (jn ws)) (bs [32])) (bs (jn ws)) = ws.map bs := by
  intro ws
  induction ws with
  | nil => intro h; exact (h rfl).elim
  | cons w r ih =>
    intro _ hns
    have hw := hns w (by simp)
    cases r with
    | nil =>
      have e : jn [w] = w := by simp [jn, tl]
      have hi : indexB (bs w) (bs [32]) = -1 := idx_none hw
      rw [e, countB_miss _ _ hi]
      rfl
    | cons w' r =>
      have e : jn (w :: w' :: r) = w ++ 32 :: jn (w' :: r) := rfl
      have hi : indexB (bs (w ++ 32 :: jn (w' :: r))) (bs [32]) = (w.length : Int) := idx_some hw
      have ih := ih (by simp) (fun x hx => hns x (by simp at hx ⊢; exact .inr hx))
      have hx : (bs (w ++ 32 :: jn (w' :: r))).extract (w.length + (bs [32]).size) (bs (w ++ 32 :: jn (w' :: r))).size = bs (jn (w' :: r)) := by
        rw [bs_extract, bs_size, bs_size, List.take_of_length_le (by simp; omega)]
        congr 1
        simp
      have hx0 : (bs (w ++ 32 :: jn (w' :: r))).extract 0 (w.length + 0) = bs w := by
        rw [bs_extract]
        congr 1
        simp
      rw [e, countB_hit _ _ w.length (by rw [bs_size]; simp) hi, hx, Nat.add_comm 1, splitB_hit _ _ _ _ _ hi, hx, hx0, ih]
      rfl
end Go.Proofs.YthdddaikdiaijaaDoor
