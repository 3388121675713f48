/- The keys of a program, each once: the plain law ClientKeys. -/
import Derived.Test.YthpcpofcadpijaaDoorGf
import Derived.Test.YthpcpofcadpijaaDoorLAwake
import Derived.Test.YthpcpofcadpijaaDoorLLoop
namespace Go.Proofs.YthpcpofcadpijaaDoor
open Go.Rf
abbrev Key := Int × ByteArray
abbrev Do := Int × (Key × (Int × Int))
abbrev kz : Key := (0, ByteArray.empty)
abbrev dz : Do := (0, kz, 0, 0)
abbrev kt : Ty := .agg (.pair (.int .u16) .str)
noncomputable instance strDec : DecidableEq ByteArray := fun _ _ => Classical.propDecidable _
noncomputable instance keyDec : DecidableEq Key := fun _ _ => Classical.propDecidable _
noncomputable instance memDec (k : Key) (l : List Key) : Decidable (k ∈ l) := Classical.propDecidable _
theorem eqB (a b : ByteArray) : eqD .str a b = decide (a = b) := by
  by_cases h : a = b
  · rw [decide_eq_true h, h]
    show (b == b) = true
    rw [beq_toListBytes]
    simp
  · rw [decide_eq_false h]
    cases e : eqD .str a b with
    | false => rfl
    | true => exact absurd (eqD_eq e) h
theorem eqK (a b : Key) : eqD kt a b = decide (a = b) := by
  show (eqD (.int .u16) a.1 b.1 && eqD .str a.2 b.2) = _
  rw [eqB]
  show (a.1 == b.1 && _) = _
  by_cases h : a.1 = b.1
  · by_cases h2 : a.2 = b.2
    · rw [h, beq_self_eq_true, decide_eq_true h2, decide_eq_true (Prod.ext h h2)]; rfl
    · rw [decide_eq_false h2, decide_eq_false (fun e => h2 (congrArg Prod.snd e)), Bool.and_false]
  · rw [beq_false_of_ne h, decide_eq_false (fun e => h (congrArg Prod.fst e)), Bool.false_and]
theorem mget_mput {β : Type} (k k' : Key) (v : β) : ∀ l : List (Key × β), mget (eqD kt) k' (mput (eqD kt) k v l) = if k' = k then some v else mget (eqD kt) k' l
  | [] => by
    by_cases h : k' = k
    · subst h; simp only [mput, mget, eqK, decide_true, if_true]
    · simp only [mput, mget, eqK, decide_eq_false h, if_neg h]
  | p :: l => by
    have ih := mget_mput k k' v l
    by_cases h : k = p.1
    · subst h
      by_cases h2 : k' = p.1
      · subst h2; simp only [mput, mget, eqK, decide_true, if_true]
      · simp only [mput, mget, eqK, decide_true, decide_eq_false h2, if_neg h2]
    · by_cases h2 : k' = p.1
      · subst h2; simp only [mput, mget, eqK, decide_eq_false h, decide_true, if_neg (fun e : p.1 = k => h e.symm)]
      · simp only [mput, mget, eqK, decide_eq_false h, decide_eq_false h2]; exact ih
/-! ### each once -/
noncomputable def ins (acc : List Key) (k : Key) : List Key := if k ∈ acc then acc else acc ++ [k]
noncomputable def uni (l : List Key) : List Key := l.foldl ins []
theorem uni_snoc (l : List Key) (k : Key) : uni (l ++ [k]) = ins (uni l) k := by simp [uni, List.foldl_append]
theorem ins_prefix (acc : List Key) (k : Key) : acc <+: ins acc k := by
  unfold ins
  split
  · exact List.prefix_refl _
  · exact List.prefix_append _ _
theorem fold_prefix : ∀ (l acc : List Key), acc <+: l.foldl ins acc
  | [], acc => List.prefix_refl _
  | k :: l, acc => (ins_prefix acc k).trans (fold_prefix l (ins acc k))
theorem uni_prefix (a b : List Key) : uni a <+: uni (a ++ b) := by
  unfold uni
  rw [List.foldl_append]
  exact fold_prefix b _
theorem ins_length (acc : List Key) (k : Key) : (ins acc k).length ≤ acc.length + 1 := by
  unfold ins
  split <;> simp
theorem fold_length : ∀ (l acc : List Key), (l.foldl ins acc).length ≤ acc.length + l.length
  | [], acc => by simp
  | k :: l, acc => by
    have := fold_length l (ins acc k)
    have h := ins_length acc k
    simp only [List.foldl_cons, List.length_cons]
    omega
theorem uni_length (l : List Key) : (uni l).length ≤ l.length := by
  have h := fold_length l []
  rw [List.length_nil, Nat.zero_add] at h
  exact h
theorem take_snoc {α : Type} {l : List α} {i : Nat} {d : α} (h : i < l.length) : l.take (i + 1) = l.take i ++ [l.getD i d] := by
  rw [List.take_add_one, List.getD_eq_getElem?_getD, List.getElem?_eq_getElem h]
  simp
/-! ### key.Unlike -/
theorem unlike (n : Nat) (l : List Key) (hl : l.length ≤ 5000000000000) (hn : l.length < n) : f30 n l = some (uni l) := by
  rw [f30_eq]
  obtain ⟨s, m', ⟨h1, h2⟩, h3, h4⟩ := loopN (G := fun m i (s : List Key × List (Key × Bool)) => f30_8 n m l l.length i s.1 s.2)
    (I := fun i s => s.1 = uni (l.take i) ∧ ∀ k, (mget (eqD kt) k s.2).getD false = decide (k ∈ s.1)) (len := l.length) (c := 1)
    (by
      intro m i s hi ⟨h1, h2⟩ hm
      obtain ⟨m, rfl⟩ : ∃ q, m = q + 1 := ⟨m - 1, by omega⟩
      have hlen : s.1.length ≤ 5000000000000 := by
        rw [h1]
        exact Nat.le_trans (uni_length _) (by simp; omega)
      have he : f30_8 n (m + 1) l l.length i s.1 s.2 = bif !(mget (eqD kt) (l.getD i kz) s.2).getD false then f30_8 n m l l.length ((i + 1 : Nat) : Int) (s.1 ++ [l.getD i kz]) (mput (eqD kt) (l.getD i kz) true s.2) else f30_8 n m l l.length ((i + 1 : Nat) : Int) s.1 s.2 := by
        rw [f30_8_eq, decide_eq_true (show (i : Int) < (l.length : Int) by omega), decide_eq_true (show (0 : Int) ≤ (i : Int) ∧ (i : Int) < (l.length : Int) by omega), wI (n := (i : Int) + 1) (by omega) (by omega),
          decide_eq_true (show (s.1.length + [l.getD (i : Int).toNat kz].length) * 24 ≤ Go.Rf.maxBytes by show (s.1.length + 1) * 24 ≤ 140737488355328; omega)]
        rfl
      show ∃ s' m', _ ∧ _ ∧ f30_8 n (m + 1) l l.length i s.1 s.2 = _
      rw [he, h2]
      by_cases hk : l.getD i kz ∈ s.1
      · refine ⟨s, m, ⟨?_, h2⟩, by omega, ?_⟩
        · rw [take_snoc (d := kz) hi, uni_snoc, ← h1, ins, if_pos hk]
        · rw [decide_eq_true hk]; rfl
      · refine ⟨(s.1 ++ [l.getD i kz], mput (eqD kt) (l.getD i kz) true s.2), m, ⟨?_, ?_⟩, by omega, ?_⟩
        · rw [take_snoc (d := kz) hi, uni_snoc, ← h1, ins, if_neg hk]
        · intro k
          rw [mget_mput]
          by_cases h : k = l.getD i kz
          · rw [if_pos h, h]; simp
          · rw [if_neg h, h2]
            by_cases hks : k ∈ s.1
            · rw [decide_eq_true hks, decide_eq_true (List.mem_append_left _ hks)]
            · rw [decide_eq_false hks, decide_eq_false (fun hh => (List.mem_append.1 hh).elim hks fun h3 => h (List.mem_singleton.1 h3))]
        · rw [decide_eq_false hk]; rfl)
    l.length 0 n ([], []) (by omega) ⟨rfl, fun k => by rw [decide_eq_false (by simp)]; rfl⟩ (by omega)
  have h4' : f30_8 n n l l.length (0 : Int) [] [] = f30_8 n m' l l.length l.length s.1 s.2 := h4
  rw [h4']
  obtain ⟨m', rfl⟩ : ∃ q, m' = q + 1 := ⟨m' - 1, by omega⟩
  rw [f30_8_eq, decide_eq_false (show ¬ (l.length : Int) < (l.length : Int) by omega), h1, List.take_length]
  rfl
/-! ### client.Keys -/
def asks (d : Do) : Bool := d.1 == 1 || (d.1 == 2 || d.1 == 4)
def asked (l : List Do) : List Key := (l.filter asks).map (·.2.1)
theorem form_key (n : Nat) (op : Int) : ∃ f, f29 n op = some f ∧ f.2.1 = (op == 1 || (op == 2 || op == 4)) := by
  rw [f29_eq]
  by_cases h1 : op = 1
  · subst h1; exact ⟨_, rfl, rfl⟩
  by_cases h2 : op = 2
  · subst h2; exact ⟨_, rfl, rfl⟩
  by_cases h3 : op = 3
  · subst h3; exact ⟨_, rfl, rfl⟩
  by_cases h4 : op = 4
  · subst h4; exact ⟨_, rfl, rfl⟩
  rw [beq_false_of_ne h1, beq_false_of_ne h2, beq_false_of_ne h3, beq_false_of_ne h4]
  simp only [cond_false, Bool.or_self]
  have key : ∀ {b : Bool} {x y : Option (ByteArray × (Bool × (Bool × (Bool × Int))))}, (∃ f, x = some f ∧ f.2.1 = false) → (∃ f, y = some f ∧ f.2.1 = false) → ∃ f, (bif b then x else y) = some f ∧ f.2.1 = false := by
    intro b x y h1 h2
    cases b
    · exact h2
    · exact h1
  exact key ⟨_, rfl, rfl⟩ (key ⟨_, rfl, rfl⟩ (key ⟨_, rfl, rfl⟩ (key ⟨_, rfl, rfl⟩ (key ⟨_, rfl, rfl⟩ ⟨_, rfl, rfl⟩))))
theorem asked_length (l : List Do) : (asked l).length ≤ l.length := by
  unfold asked
  rw [List.length_map]
  exact List.length_filter_le _ _
theorem asked_snoc (l : List Do) (d : Do) : asked (l ++ [d]) = if asks d = true then asked l ++ [d.2.1] else asked l := by
  unfold asked
  by_cases h : asks d = true
  · simp [h]
  · simp [h]
theorem keys (n : Nat) (l : List Do) (hl : l.length ≤ 5000000000000) (hn : l.length < n) : f7 n l = some (uni (asked l)) := by
  rw [f7_eq]
  obtain ⟨s, m', h1, h3, h4⟩ := loopN (G := fun m i (s : List Key) => f7_6 n m l l.length i s) (I := fun i s => s = asked (l.take i)) (len := l.length) (c := 1)
    (by
      intro m i s hi h1 hm
      obtain ⟨m, rfl⟩ : ∃ q, m = q + 1 := ⟨m - 1, by omega⟩
      have hlen : s.length ≤ 5000000000000 := by
        rw [h1]
        exact Nat.le_trans (asked_length _) (by simp; omega)
      obtain ⟨f, hf, hf2⟩ := form_key n (l.getD i dz).1
      have he : f7_6 n (m + 1) l l.length i s = bif asks (l.getD i dz) then f7_6 n m l l.length ((i + 1 : Nat) : Int) (s ++ [(l.getD i dz).2.1]) else f7_6 n m l l.length ((i + 1 : Nat) : Int) s := by
        rw [f7_6_eq, decide_eq_true (show (i : Int) < (l.length : Int) by omega), decide_eq_true (show (0 : Int) ≤ (i : Int) ∧ (i : Int) < (l.length : Int) by omega), wI (n := (i : Int) + 1) (by omega) (by omega),
          decide_eq_true (show (s.length + [(l.getD (i : Int).toNat dz).2.1].length) * 24 ≤ Go.Rf.maxBytes by show (s.length + 1) * 24 ≤ 140737488355328; omega)]
        simp only [cond_true, Int.toNat_natCast]
        rw [hf]
        simp only [Option.bind_some]
        rw [hf2]
        rfl
      show ∃ s' m', _ ∧ _ ∧ f7_6 n (m + 1) l l.length i s = _
      rw [he]
      refine ⟨_, m, rfl, by omega, ?_⟩
      rw [take_snoc (d := dz) hi, asked_snoc, ← h1]
      cases asks (l.getD i dz) <;> rfl)
    l.length 0 n [] (by omega) rfl (by omega)
  have h4' : f7_6 n n l l.length (0 : Int) [] = f7_6 n m' l l.length l.length s := h4
  rw [h4']
  obtain ⟨m', rfl⟩ : ∃ q, m' = q + 1 := ⟨m' - 1, by omega⟩
  rw [f7_6_eq, decide_eq_false (show ¬ (l.length : Int) < (l.length : Int) by omega), h1, List.take_length]
  have hal := asked_length l
  rw [unlike n (asked l) (by omega) (by omega)]
  rfl
/-! ### the law -/
/-- The inner loop: was it among the first ones? -/
theorem seen_loop (n : Nat) (l : List Do) (ks : List Key) (c : Nat) (hc : c ≤ ks.length) (hks : ks.length ≤ 5000000000000) (i : Nat) (hi : i < l.length) (m : Nat) (hm : c < m) :
    ∃ m', m ≤ m' + c ∧ 0 < m' ∧ f3_18 n m l ks c i false (0 : Int) = f3_18 n m' l ks c i (decide ((l.getD i dz).2.1 ∈ ks.take c)) c := by
  obtain ⟨s, m', h1, h3, h4⟩ := loopN (G := fun m k (s : Bool) => f3_18 n m l ks c i s k) (I := fun k s => s = decide ((l.getD i dz).2.1 ∈ ks.take k)) (len := c) (c := 1)
    (by
      intro m k s hk h1 hm
      obtain ⟨m, rfl⟩ : ∃ q, m = q + 1 := ⟨m - 1, by omega⟩
      refine ⟨_, m, rfl, by omega, ?_⟩
      show f3_18 n (m + 1) l ks c i s k = _
      rw [f3_18_eq, decide_eq_true (show (k : Int) < (c : Int) by omega), decide_eq_true (show (0 : Int) ≤ (k : Int) ∧ (k : Int) < (ks.length : Int) by omega), decide_eq_true (show (0 : Int) ≤ (i : Int) ∧ (i : Int) < (l.length : Int) by omega),
        wI (n := (k : Int) + 1) (by omega) (by omega)]
      simp only [cond_true, Int.toNat_natCast]
      have ht := take_snoc (l := ks) (d := kz) (show k < ks.length by omega)
      cases hs : s with
      | true =>
        rw [hs] at h1
        have : (l.getD i dz).2.1 ∈ ks.take k := by simpa using h1.symm
        have h2 : (l.getD i dz).2.1 ∈ ks.take (k + 1) := by rw [ht]; exact List.mem_append_left _ this
        simp only [cond_true]
        rw [decide_eq_true h2]
        rfl
      | false =>
        rw [hs] at h1
        have : ¬ (l.getD i dz).2.1 ∈ ks.take k := by simpa using h1.symm
        simp only [cond_false]
        have e := eqK (ks.getD k kz) (l.getD i dz).2.1
        have e' : ((ks.getD k kz).fst == (l.getD i dz).snd.fst.fst && (ks.getD k kz).snd == (l.getD i dz).snd.fst.snd) = decide (ks.getD k kz = (l.getD i dz).2.1) := e
        rw [e', ht]
        have e2 : decide ((l.getD i dz).2.1 ∈ ks.take k ++ [ks.getD k kz]) = decide (ks.getD k kz = (l.getD i dz).2.1) := by
          by_cases hh : ks.getD k kz = (l.getD i dz).2.1
          · rw [decide_eq_true hh, ← hh]; simp
          · rw [decide_eq_false hh]
            simp only [decide_eq_false_iff_not, List.mem_append, List.mem_singleton, not_or]
            exact ⟨this, fun e => hh e.symm⟩
        rw [e2]
        rfl)
    c 0 m false (by omega) (by simp) (by omega)
  refine ⟨m', by omega, by omega, ?_⟩
  have h4' : f3_18 n m l ks c i false (0 : Int) = f3_18 n m' l ks c i s c := h4
  rw [h4', h1]
theorem law (n : Nat) (l : List Do) (hl : l.length ≤ 5000000000000) (hn : (l.length + 3) * (l.length + 3) + 30 ≤ n) : f3 n l = some true := by
  have hsq : (l.length + 3) * (l.length + 3) = l.length * (l.length + 2) + l.length + 3 * l.length + 9 := by
    simp only [Nat.add_mul, Nat.mul_add]; omega
  rw [f3_eq, keys n l hl (by omega)]
  simp only [Option.bind_some]
  obtain ⟨s, m', h1, h3, h4⟩ := loopN (G := fun m i (s : Nat) => f3_8 n m l (uni (asked l)) s i) (I := fun i s => s = (uni (asked (l.take i))).length) (len := l.length) (c := l.length + 2)
    (by
      intro m i s hi h1 hm
      obtain ⟨m, rfl⟩ : ∃ q, m = q + 1 := ⟨m - 1, by omega⟩
      have hpre : uni (asked (l.take i)) <+: uni (asked l) := by
        have := uni_prefix (asked (l.take i)) (asked (l.drop i))
        rwa [show asked (l.take i) ++ asked (l.drop i) = asked l by unfold asked; rw [← List.map_append, ← List.filter_append, List.take_append_drop]] at this
      have hpre2 : uni (asked (l.take (i + 1))) <+: uni (asked l) := by
        have := uni_prefix (asked (l.take (i + 1))) (asked (l.drop (i + 1)))
        rwa [show asked (l.take (i + 1)) ++ asked (l.drop (i + 1)) = asked l by unfold asked; rw [← List.map_append, ← List.filter_append, List.take_append_drop]] at this
      have hs : s ≤ (uni (asked l)).length := by rw [h1]; exact hpre.length_le
      have hal := asked_length l
      have hul := uni_length (asked l)
      have hs2 : s ≤ l.length := by omega
      have he : f3_8 n (m + 1) l (uni (asked l)) s i = bif asks (l.getD i dz) then f3_18 n m l (uni (asked l)) s i false (0 : Int) else f3_8 n m l (uni (asked l)) s ((i + 1 : Nat) : Int) := by
        rw [f3_8_eq, decide_eq_true (show (i : Int) < (l.length : Int) by omega), decide_eq_true (show (0 : Int) ≤ (i : Int) ∧ (i : Int) < (l.length : Int) by omega), wI (n := (i : Int) + 1) (by omega) (by omega)]
        simp only [cond_true, Int.toNat_natCast]
        unfold asks
        rw [bne, bne, bne]
        rcases h : (l.getD i dz).fst == 1
        · rcases h' : (l.getD i dz).fst == 2
          · rcases h'' : (l.getD i dz).fst == 4
            · rfl
            · rfl
          · rfl
        · rfl
      show ∃ s' m', _ ∧ _ ∧ f3_8 n (m + 1) l (uni (asked l)) s i = _
      rw [he]
      cases ha : asks (l.getD i dz) with
      | false =>
        refine ⟨s, m, ?_, by omega, rfl⟩
        rw [take_snoc (d := dz) hi, asked_snoc, ha]
        exact h1
      | true =>
        obtain ⟨m1, hm1, hm0, e1⟩ := seen_loop n l (uni (asked l)) s hs (by omega) i hi m (by omega)
        simp only [cond_true]
        rw [e1]
        obtain ⟨m1, rfl⟩ : ∃ q, m1 = q + 1 := ⟨m1 - 1, by omega⟩
        rw [f3_18_eq, decide_eq_false (show ¬ (s : Int) < (s : Int) by omega)]
        simp only [cond_false]
        have htk : (uni (asked l)).take s = uni (asked (l.take i)) := by rw [h1]; exact (List.prefix_iff_eq_take.1 hpre).symm
        rw [htk]
        have hsn : asked (l.take (i + 1)) = asked (l.take i) ++ [(l.getD i dz).2.1] := by rw [take_snoc (d := dz) hi, asked_snoc, ha]; rfl
        by_cases hk : (l.getD i dz).2.1 ∈ uni (asked (l.take i))
        · refine ⟨s, m1, ?_, by omega, ?_⟩
          · rw [hsn, uni_snoc, ins, if_pos hk]; exact h1
          · rw [decide_eq_true hk, wI (n := (i : Int) + 1) (by omega) (by omega)]; rfl
        · have hun : uni (asked (l.take (i + 1))) = uni (asked (l.take i)) ++ [(l.getD i dz).2.1] := by rw [hsn, uni_snoc, ins, if_neg hk]
          rw [hun] at hpre2
          obtain ⟨r, hr⟩ := hpre2
          have hget : (uni (asked l)).getD s kz = (l.getD i dz).2.1 := by
            rw [← hr, h1, List.append_assoc, List.getD_eq_getElem?_getD, List.getElem?_append_right (by omega)]
            simp
          have hlt : s < (uni (asked l)).length := by rw [← hr, h1]; simp
          refine ⟨s + 1, m1, ?_, by omega, ?_⟩
          · rw [hun, h1]; simp
          · rw [decide_eq_false hk, decide_eq_false (show ¬ (s : Int) ≥ ((uni (asked l)).length : Int) by omega), decide_eq_true (show (0 : Int) ≤ (s : Int) ∧ (s : Int) < ((uni (asked l)).length : Int) by omega),
              decide_eq_true (show (0 : Int) ≤ (i : Int) ∧ (i : Int) < (l.length : Int) by omega), wI (n := (i : Int) + 1) (by omega) (by omega), wI (n := (s : Int) + 1) (by omega) (by omega)]
            simp only [cond_true, cond_false, Int.toNat_natCast]
            rw [hget]
            have e' := eqK (l.getD i dz).2.1 (l.getD i dz).2.1
            have e'' : ((l.getD i dz).snd.fst.fst == (l.getD i dz).snd.fst.fst && (l.getD i dz).snd.fst.snd == (l.getD i dz).snd.fst.snd) = true := by
              have h : ((l.getD i dz).snd.fst.fst == (l.getD i dz).snd.fst.fst && (l.getD i dz).snd.fst.snd == (l.getD i dz).snd.fst.snd) = _ := e'
              rw [h]; simp
            rw [e'']
            rfl)
    l.length 0 n 0 (by omega) rfl (by omega)
  have h4' : f3_8 n n l (uni (asked l)) (0 : Int) (0 : Int) = f3_8 n m' l (uni (asked l)) s l.length := h4
  rw [h4']
  obtain ⟨m', rfl⟩ : ∃ q, m' = q + 1 := ⟨m' - 1, by omega⟩
  rw [f3_8_eq, decide_eq_false (show ¬ (l.length : Int) < (l.length : Int) by omega), f8_true n (by omega), h1, List.take_length]
  simp
end Go.Proofs.YthpcpofcadpijaaDoor
