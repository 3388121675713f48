/- A line is read by both as the one thing whose line it is. -/
import Derived.Test.YthpcpofcadpijaaDoorLTxt
namespace Go.Proofs.YthpcpofcadpijaaDoor
open Go.Rf Go.Lib
/-- Its line is this one. -/
structure Snd (l : Bytes) (d : Do) : Prop where
  may : MayD d
  u : U16 d
  ln : lineL d = l
def Res (l : Bytes) (o : Option (Do × Bool)) : Prop := ∃ d b, o = some (d, b) ∧ (b = true → Snd l d)
/-! ### the client -/
theorem fin_go {n : Nat} (hn : 2 ≤ n) (M : Nat) (l : Bytes) (x3 : Bool) (z d : Do) (hu : U16 d) : ∃ b, f46_39 n (M + 1) (bs l) x3 z d = some (d, b) ∧ (b = true ↔ MayD d ∧ lineL d = l) := by
  rw [f46_39_eq, may_go hn]
  simp only [Option.bind_some]
  cases hm : mayB d with
  | false =>
    refine ⟨false, rfl, ⟨fun h => (by cases h), fun h => ?_⟩⟩
    rw [mayB_iff.2 h.1] at hm
    cases hm
  | true =>
    have may := mayB_iff.1 hm
    simp only [cond_true]
    rw [line_go n (parts_of may hu)]
    simp only [Option.bind_some, bs_toList]
    exact ⟨_, rfl, by simp [may]⟩
theorem fin_go_res {n : Nat} (hn : 2 ≤ n) (M : Nat) (l : Bytes) (x3 : Bool) (z d : Do) (hu : U16 d) : Res l (f46_39 n (M + 1) (bs l) x3 z d) := by
  obtain ⟨b, h1, h2⟩ := fin_go hn M l x3 z d hu
  exact ⟨d, b, h1, fun hb => ⟨(h2.1 hb).1, hu, (h2.1 hb).2⟩⟩
theorem tail_go {n : Nat} (hn : 2 ≤ n) (M : Nat) (l r : Bytes) (hr : r.length ≤ 281474976710656) (x3 : Bool) (z d : Do) (hu : U16 d) (f : ByteArray × (Bool × (Bool × (Bool × Int)))) : Res l (f46_31 n (M + 1 + 1 + 1) (bs l) x3 (bs r) z d f) := by
  have t35 : ∀ d : Do, U16 d → Res l (f46_35 n (M + 1 + 1) (bs l) x3 (bs r) z d f) := by
    intro d hu
    rw [f46_35_eq]
    cases f.2.2.2.1 with
    | true =>
      obtain ⟨v, hv⟩ := num_go_any n hr
      simp only [cond_true]
      rw [hv]
      simp only [Option.bind_some]
      exact fin_go_res hn M l x3 z _ hu
    | false =>
      simp only [cond_false]
      exact fin_go_res hn M l x3 z _ hu
  rw [f46_31_eq]
  cases f.2.2.1 with
  | true =>
    obtain ⟨v, hv⟩ := num_go_any n hr
    simp only [cond_true]
    rw [hv]
    simp only [Option.bind_some]
    exact t35 _ hu
  | false =>
    simp only [cond_false]
    exact t35 _ hu
def pick (w : Bytes) (k c : Int) : Int := if (fm k).w = w then k else c
theorem loop_step (n m : Nat) (s : ByteArray) (x3 : Bool) (w : Bytes) (rest : ByteArray) (k : Int) (z d : Do) (h1 : 1 ≤ k) (h9 : k ≤ 9) :
    f46_8 n (m + 1) s x3 (bs w) rest k z d = f46_8 n m s x3 (bs w) rest (k + 1) z (pick w k d.1, d.2) := by
  rw [f46_8_eq, decide_eq_true h9, form_go, wI (n := k + 1) (by omega) (by omega)]
  simp only [cond_true, Option.bind_some, bs_toList]
  unfold pick
  by_cases h : (fm k).w = w
  · rw [h, beq_self_eq_true, cond_true, if_pos rfl]
  · rw [beq_false_of_ne h, cond_false, if_neg h]
def opOf (w : Bytes) : Int := pick w 9 (pick w 8 (pick w 7 (pick w 6 (pick w 5 (pick w 4 (pick w 3 (pick w 2 (pick w 1 0))))))))
theorem opOf_word {k : Int} (hk : (fm k).w ≠ []) : opOf (fm k).w = k := by
  rcases op_cases k with h | h
  · rcases h with e | e | e | e | e | e | e | e | e <;> subst e <;> decide
  · rw [h] at hk; exact (hk rfl).elim
theorem loop_go (n m : Nat) (s : ByteArray) (x3 : Bool) (w : Bytes) (rest : ByteArray) (z : Do) : f46_8 n (m + 9) s x3 (bs w) rest 1 z dz = f46_8 n m s x3 (bs w) rest 10 z (opOf w, dz.2) := by
  rw [show m + 9 = (m + 8) + 1 from rfl, loop_step _ _ _ _ _ _ 1 _ _ (by decide) (by decide), show m + 8 = (m + 7) + 1 from rfl, loop_step _ _ _ _ _ _ (1 + 1) _ _ (by decide) (by decide), show m + 7 = (m + 6) + 1 from rfl, loop_step _ _ _ _ _ _ (1 + 1 + 1) _ _ (by decide) (by decide),
    show m + 6 = (m + 5) + 1 from rfl, loop_step _ _ _ _ _ _ (1 + 1 + 1 + 1) _ _ (by decide) (by decide), show m + 5 = (m + 4) + 1 from rfl, loop_step _ _ _ _ _ _ (1 + 1 + 1 + 1 + 1) _ _ (by decide) (by decide), show m + 4 = (m + 3) + 1 from rfl, loop_step _ _ _ _ _ _ (1 + 1 + 1 + 1 + 1 + 1) _ _ (by decide) (by decide),
    show m + 3 = (m + 2) + 1 from rfl, loop_step _ _ _ _ _ _ (1 + 1 + 1 + 1 + 1 + 1 + 1) _ _ (by decide) (by decide), show m + 2 = (m + 1) + 1 from rfl, loop_step _ _ _ _ _ _ (1 + 1 + 1 + 1 + 1 + 1 + 1 + 1) _ _ (by decide) (by decide), loop_step _ _ _ _ _ _ (1 + 1 + 1 + 1 + 1 + 1 + 1 + 1 + 1) _ _ (by decide) (by decide)]
  rfl
theorem u16_dz (k : Int) : U16 (k, dz.2) := ⟨Int.le_refl 0, by show (0 : Int) ≤ 65535; decide⟩
/-- What is done with the rest of a line. -/
theorem head_go {n : Nat} (m : Nat) (l r : Bytes) (hr : r.length ≤ 281474976710656) (hn : 3 * r.length + 10 ≤ n) (x3 : Bool) (w : ByteArray) (z : Do) (k : Int) : Res l (f46_8 n (m + 1 + 1 + 1 + 1) (bs l) x3 w (bs r) 10 z (k, dz.2)) := by
  rw [f46_8_eq, show decide ((10 : Int) ≤ 9) = false from rfl, cond_false, form_go]
  simp only [Option.bind_some]
  cases (fm k).k with
  | false =>
    simp only [cond_false]
    exact tail_go (by omega) m l r hr x3 z _ (u16_dz k) _
  | true =>
    simp only [cond_true]
    cases (fm k).s with
    | false =>
      obtain ⟨q, i, e, h1, h2⟩ := key_go_any (n := n) hr (by omega)
      simp only [cond_false]
      rw [h1]
      simp only [Option.bind_some]
      exact tail_go (by omega) m l r hr x3 z (k, q, dz.2.2) h2 _
    | true =>
      simp only [cond_true]
      rcases split_last 32 r with h | ⟨a, b, e, h⟩
      · rw [show s46x0 = bs [32] from rfl, last_go_none n h hr, bs_size]
        simp only [Option.bind_some]
        rw [show (if (0 : Int) > -1 then (0 : Int) else -1) = 0 from rfl, show IntKind.i64.wrap ((-1 : Int) + 1) = 0 from by rw [wI (by decide) (by decide)]; rfl, decide_eq_true (by omega), decide_eq_true (by omega)]
        simp only [cond_true, bs_extract]
        obtain ⟨q, i, e, h1, h2⟩ := key_go_any (n := n) (l := (r.drop 0).take ((0 : Int).toNat - 0)) (by simp) (by simp; omega)
        rw [h1]
        simp only [Option.bind_some]
        exact tail_go (by omega) m l _ (by simp; omega) x3 z (k, q, dz.2.2) h2 _
      · subst e
        have hlen : (a ++ (32 : UInt8) :: b).length = a.length + b.length + 1 := by simp; omega
        rw [show s46x0 = bs [32] from rfl, last_go_at n h hr, bs_size]
        simp only [Option.bind_some]
        rw [if_neg (by omega), castN (by omega), decide_eq_true (by omega), decide_eq_true (by omega)]
        simp only [cond_true, bs_extract]
        obtain ⟨q, i, e, h1, h2⟩ := key_go_any (n := n) (l := ((a ++ (32 : UInt8) :: b).drop 0).take (((a.length : Nat) : Int).toNat - 0)) (by simp; omega) (by simp; omega)
        rw [h1]
        simp only [Option.bind_some]
        exact tail_go (by omega) m l _ (by simp; omega) x3 z (k, q, dz.2.2) h2 _
theorem read_go {n : Nat} {l : Bytes} (hl : l.length ≤ 281474976710656) (hn : 3 * l.length + 100 ≤ n) : Res l (f46 n (bs l)) := by
  obtain ⟨m, hm⟩ : ∃ m, n = (m + 1 + 1 + 1 + 1) + 9 := ⟨n - 13, by omega⟩
  have go : ∀ (w r : Bytes) (b : Bool), r.length ≤ l.length → f45 n (bs l) (bs [32]) = some (bs w, bs r, b) → Res l (f46 n (bs l)) := by
    intro w r b hr h
    rw [f46_eq, show s46x0 = bs [32] from rfl, h]
    simp only [Option.bind_some]
    have e : f46_8 n n (bs l) false (bs w) (bs r) 1 ((0 : Int), ((0 : Int), ByteArray.empty), (0 : Int), (0 : Int)) ((0 : Int), ((0 : Int), ByteArray.empty), (0 : Int), (0 : Int)) = f46_8 n (m + 1 + 1 + 1 + 1) (bs l) false (bs w) (bs r) 10 dz (opOf w, dz.2) := by
      have := loop_go n (m + 1 + 1 + 1 + 1) (bs l) false w (bs r) dz
      rw [← hm] at this
      exact this
    rw [e]
    exact head_go m l r (by omega) (by omega) false _ dz _
  rcases split_byte 32 l with h | ⟨a, b, e, h⟩
  · exact go l [] false (by simp) (cut_no n h)
  · have hlen : l.length = a.length + b.length + 1 := by rw [e]; simp; omega
    exact go a b true (by omega) (by rw [e]; exact cut_at n h (by rw [← e]; exact hl))
/-! ### the client reads the line of what may be -/
theorem flags (op : Int) (h : (fm op).w ≠ []) : ((fm op).k = true ∧ (fm op).m = false) ∨ ((fm op).k = false ∧ (fm op).s = true ∧ (fm op).m = false) ∨ ((fm op).k = false ∧ (fm op).s = false ∧ (fm op).m = true) := by
  rcases op_cases op with h' | h'
  · rcases h' with e | e | e | e | e | e | e | e | e <;> subst e <;> decide
  · rw [h'] at h; exact (h rfl).elim
theorem do_ext {a b : Do} (h1 : a.1 = b.1) (h2 : a.2.1 = b.2.1) (h3 : a.2.2.1 = b.2.2.1) (h4 : a.2.2.2 = b.2.2.2) : a = b := Prod.ext h1 (Prod.ext h2 (Prod.ext h3 h4))
/-- What is not named is not there. -/
theorem not_named {d : Do} (h : MayD d) : ((fm d.1).k = false → d.2.1 = (0, ByteArray.empty)) ∧ ((fm d.1).s = false → d.2.2.2 = 0) ∧ ((fm d.1).m = false → d.2.2.1 = 0) := by
  refine ⟨fun e => ?_, fun e => ?_, fun e => ?_⟩
  · have := h.k; unfold KeyOk at this; rw [if_neg (by rw [e]; simp)] at this; exact this
  · have := h.s; unfold SlotOk at this; rw [if_neg (by rw [e]; simp)] at this; exact this
  · have := h.m; unfold NumOk at this; rw [if_neg (by rw [e]; simp)] at this; exact this
theorem rest_len {d : Do} (h : MayD d) (hu : U16 d) : (restL d).length ≤ 200 := by
  have := line_len (parts_of h hu)
  rw [line_rest h, List.length_append, List.length_cons] at this
  omega
theorem head_go_line {n : Nat} (hn : 1000 ≤ n) (m : Nat) {d : Do} (h : MayD d) (hu : U16 d) (x3 : Bool) (w : ByteArray) (z : Do) : f46_8 n (m + 1 + 1 + 1 + 1) (bs (lineL d)) x3 w (bs (restL d)) 10 z (d.1, dz.2) = some (d, true) := by
  have P := parts_of h hu
  obtain ⟨nk, ns, nm⟩ := not_named h
  have fin : ∀ d' : Do, d' = d → f46_39 n (m + 1) (bs (lineL d)) x3 z d' = some (d, true) := by
    intro d' e
    subst e
    obtain ⟨b, h1, h2⟩ := fin_go (n := n) (by omega) m (lineL d') x3 z d' hu
    rw [h1, h2.2 ⟨h, rfl⟩]
  rw [f46_8_eq, show decide ((10 : Int) ≤ 9) = false from rfl, cond_false, form_go]
  simp only [Option.bind_some]
  rcases flags d.1 h.w with ⟨hk, hm⟩ | ⟨hk, hs, hm⟩ | ⟨hk, hs, hm⟩
  · obtain ⟨k1, k2, k3⟩ := P.k hk
    have hkl := (keyL_len k1 k2 k3).1
    rw [hk, hm]
    simp only [cond_true]
    cases hs : (fm d.1).s with
    | true =>
      obtain ⟨u, e, hlu⟩ := P.s hs
      have hd20 : (decDigits u).length ≤ 20 := dec20 (by omega)
      have er : restL d = keyL d.2.1 ++ 32 :: decDigits u := by unfold restL; rw [if_pos hk, if_pos hs, e]; rfl
      have hlen : (keyL d.2.1 ++ (32 : UInt8) :: decDigits u).length = (keyL d.2.1).length + (decDigits u).length + 1 := by simp; omega
      rw [er]
      simp only [cond_true]
      rw [show s46x0 = bs [32] from rfl, last_go_at n (dec_nospace u) (by omega), bs_size]
      simp only [Option.bind_some]
      rw [if_neg (by omega), castN (by omega), decide_eq_true (by omega), decide_eq_true (by omega)]
      simp only [cond_true, bs_extract]
      have e1 : ((keyL d.2.1 ++ (32 : UInt8) :: decDigits u).drop 0).take ((((keyL d.2.1).length : Nat) : Int).toNat - 0) = keyL d.2.1 := by simp
      have e2 : ((keyL d.2.1 ++ (32 : UInt8) :: decDigits u).drop ((((keyL d.2.1).length + 1 : Nat) : Int)).toNat).take ((((keyL d.2.1 ++ (32 : UInt8) :: decDigits u).length : Nat) : Int).toNat - (((keyL d.2.1).length + 1 : Nat) : Int).toNat) = decDigits u := by
        rw [show (((keyL d.2.1).length + 1 : Nat) : Int).toNat = (keyL d.2.1).length + 1 from rfl, show (((keyL d.2.1 ++ (32 : UInt8) :: decDigits u).length : Nat) : Int).toNat = (keyL d.2.1 ++ (32 : UInt8) :: decDigits u).length from rfl, show keyL d.2.1 ++ (32 : UInt8) :: decDigits u = (keyL d.2.1 ++ [32]) ++ decDigits u by simp, List.drop_append_of_le_length (by simp)]
        simp
        exact List.take_of_length_le (by omega)
      rw [e1, e2, key_go_dec (by omega) k1 k2 k3]
      simp only [Option.bind_some]
      rw [f46_31_eq]
      simp only [cond_true]
      rw [num_go_dec n (by omega)]
      simp only [Option.bind_some]
      rw [f46_35_eq]
      simp only [cond_false]
      exact fin _ (do_ext rfl rfl (nm hm).symm e.symm)
    | false =>
      have er : restL d = keyL d.2.1 := by unfold restL; rw [if_pos hk, if_neg (by rw [hs]; simp)]; simp
      rw [er]
      simp only [cond_false]
      rw [key_go_dec (by omega) k1 k2 k3]
      simp only [Option.bind_some]
      rw [f46_31_eq]
      simp only [cond_false]
      rw [f46_35_eq]
      simp only [cond_false]
      exact fin _ (do_ext rfl rfl (nm hm).symm (ns hs).symm)
  · obtain ⟨u, e, hlu⟩ := P.s hs
    have er : restL d = decDigits u := by unfold restL; rw [if_neg (by rw [hk]; simp), if_pos hs, e]; rfl
    rw [hk, hs, hm, er]
    simp only [cond_false]
    rw [f46_31_eq]
    simp only [cond_true]
    rw [num_go_dec n (by omega)]
    simp only [Option.bind_some]
    rw [f46_35_eq]
    simp only [cond_false]
    exact fin _ (do_ext rfl (nk hk).symm (nm hm).symm e.symm)
  · obtain ⟨u, e, hlu⟩ := P.m hm
    have er : restL d = decDigits u := by unfold restL; rw [if_neg (by rw [hk]; simp), if_neg (by rw [hs]; simp), e]; rfl
    rw [hk, hs, hm, er]
    simp only [cond_false]
    rw [f46_31_eq]
    simp only [cond_false]
    rw [f46_35_eq]
    simp only [cond_true]
    rw [num_go_dec n (by omega)]
    simp only [Option.bind_some]
    exact fin _ (do_ext rfl (nk hk).symm e.symm (ns hs).symm)
theorem read_go_line {n : Nat} (hn : 1000 ≤ n) {d : Do} (h : MayD d) (hu : U16 d) : f46 n (bs (lineL d)) = some (d, true) := by
  obtain ⟨m, hm⟩ : ∃ m, n = (m + 1 + 1 + 1 + 1) + 9 := ⟨n - 13, by omega⟩
  have hlen := line_len (parts_of h hu)
  have hc : f45 n (bs (lineL d)) (bs [32]) = some (bs (fm d.1).w, bs (restL d), true) := by
    rw [line_rest h]
    exact cut_at n (w_nospace d.1) (by rw [← line_rest h]; omega)
  rw [f46_eq, show s46x0 = bs [32] from rfl, hc]
  simp only [Option.bind_some]
  have e : f46_8 n n (bs (lineL d)) false (bs (fm d.1).w) (bs (restL d)) 1 ((0 : Int), ((0 : Int), ByteArray.empty), (0 : Int), (0 : Int)) ((0 : Int), ((0 : Int), ByteArray.empty), (0 : Int), (0 : Int)) = f46_8 n (m + 1 + 1 + 1 + 1) (bs (lineL d)) false (bs (fm d.1).w) (bs (restL d)) 10 dz (opOf (fm d.1).w, dz.2) := by
    have := loop_go n (m + 1 + 1 + 1 + 1) (bs (lineL d)) false (fm d.1).w (bs (restL d)) dz
    rw [← hm] at this
    exact this
  rw [e, opOf_word h.w]
  exact head_go_line hn m h hu false _ dz
open Go.Rf Go.Lib
abbrev Junk := ByteArray × Int × Int × Bool × Bool × ByteArray × Int × ByteArray × ByteArray × Bool × Bool × Bool × ByteArray × Int × Int × Bool × Bool
/-- The last part: it is told, or the next kind is tried. -/
def Next (l : Bytes) (n M : Nat) (k : Int) (z : Do) (o : Option (Do × Bool)) : Prop := (∃ d, o = some (d, true) ∧ Snd l d) ∨ ∃ M', M ≤ M' ∧ o = f47_4 n M' (bs l) (k + 1) z
theorem fin_ref {n : Nat} (hn : 100 ≤ n) (M : Nat) (l : Bytes) (k : Int) (h1 : 1 ≤ k) (h9 : k ≤ 9) (ok : Bool) (x25 : ByteArray) (x26 x27 : Int) (x28 x29 : Bool) (x30 : ByteArray) (x31 : Int) (x32 x34 : ByteArray) (x35 x36 x37 : Bool) (x38 : ByteArray) (x39 x40 : Int) (x41 x42 : Bool) (z : Do) (f : ByteArray × (Bool × (Bool × (Bool × (Int × Int))))) (d : Do) (hu : U16 d) :
    Next l n M k z (f47_39 n (M + 1) (bs l) k ok x25 x26 x27 x28 x29 x30 x31 x32 x34 x35 x36 x37 x38 x39 x40 x41 x42 z f d) := by
  have nx : Next l n M k z (f47_4 n M (bs l) (IntKind.i64.wrap (k + 1)) z) := .inr ⟨M, Nat.le_refl _, by rw [wI (by omega) (by omega)]⟩
  rw [f47_39_eq]
  cases ok with
  | false =>
    simp only [cond_false]
    exact nx
  | true =>
    simp only [cond_true]
    rw [may_ref (by omega)]
    simp only [Option.bind_some]
    cases hm : mayB d with
    | false =>
      simp only [cond_false]
      exact nx
    | true =>
      have may := mayB_iff.1 hm
      simp only [cond_true]
      rw [line_ref hn (parts_of may hu)]
      simp only [Option.bind_some, bs_toList]
      by_cases he : lineL d = l
      · rw [he, beq_self_eq_true, cond_true]
        exact .inl ⟨d, rfl, may, hu, he⟩
      · rw [beq_false_of_ne he, cond_false]
        exact nx
theorem rest_ref {n : Nat} (M : Nat) (l r : Bytes) (hr : r.length ≤ 281474976710656) (hn : r.length + 200 ≤ n) (k : Int) (h1 : 1 ≤ k) (h9 : k ≤ 9) (ok : Bool) (x25 : ByteArray) (x26 x27 : Int) (x28 x29 : Bool) (x30 : ByteArray) (x31 : Int) (x32 x34 : ByteArray) (x35 x36 x37 : Bool) (x38 : ByteArray) (x39 x40 : Int) (x41 x42 : Bool) (z : Do) (f : ByteArray × (Bool × (Bool × (Bool × (Int × Int))))) (d : Do) (hu : U16 d) :
    Next l n M k z (f47_25 n (M + 1 + 1 + 1) (bs l) k (bs r) ok x25 x26 x27 x28 x29 x30 x31 x32 x34 x35 x36 x37 x38 x39 x40 x41 x42 z f d) := by
  have t33 : ∀ (r : Bytes) (ok : Bool) (d : Do), r.length ≤ 281474976710656 → r.length + 200 ≤ n → U16 d → Next l n M k z (f47_33 n (M + 1 + 1) (bs l) k (bs r) ok x25 x26 x27 x28 x29 x30 x31 x32 x34 x35 x36 x37 x38 x39 x40 x41 x42 z f d) := by
    intro r ok d hr hn hu
    rw [f47_33_eq]
    cases f.2.1 with
    | false =>
      simp only [cond_false]
      exact fin_ref (by omega) M l k h1 h9 ok x25 x26 x27 x28 x29 x30 x31 x32 x34 x35 x36 x37 x38 x39 x40 x41 x42 z f d hu
    | true =>
      obtain ⟨q, i, e, hq⟩ := key_ref_any (n := n) hr (by omega)
      simp only [cond_true]
      rw [e]
      simp only [Option.bind_some]
      cases ok with
      | false =>
        simp only [cond_false]
        exact fin_ref (by omega) M l k h1 h9 false x25 x26 x27 x28 x29 x30 x31 x32 x34 x35 x36 x37 x38 x39 x40 x41 x42 z f (d.1, q, d.2.2) hq
      | true =>
        simp only [cond_true]
        exact fin_ref (by omega) M l k h1 h9 _ x25 x26 x27 x28 x29 x30 x31 x32 x34 x35 x36 x37 x38 x39 x40 x41 x42 z f (d.1, q, d.2.2) hq
  rw [f47_25_eq]
  cases f.2.2.1 with
  | false =>
    simp only [cond_false]
    exact t33 r ok d hr hn hu
  | true =>
    simp only [cond_true]
    rcases split_last 32 r with h | ⟨a, b, e, h⟩
    · obtain ⟨⟨v, bb⟩, hv⟩ := num_ref_any (n := n) hr (by omega)
      rw [last_ref_none h hr (by omega)]
      simp only [Option.bind_some]
      rw [hv]
      simp only [Option.bind_some]
      exact t33 [] bb (d.1, d.2.1, d.2.2.1, v) (by simp) (by simp; omega) hu
    · have hlen : r.length = a.length + b.length + 1 := by rw [e]; simp; omega
      obtain ⟨⟨v, bb⟩, hv⟩ := num_ref_any (n := n) (l := b) (by omega) (by omega)
      rw [e, last_ref_at h (by rw [← e]; omega) (by rw [← e]; omega)]
      simp only [Option.bind_some]
      rw [hv]
      simp only [Option.bind_some]
      exact t33 a bb (d.1, d.2.1, d.2.2.1, v) (by omega) (by omega) hu
theorem u16_op (k : Int) (a b : Int) : U16 (k, (0, ByteArray.empty), a, b) := ⟨Int.le_refl 0, by show (0 : Int) ≤ 65535; decide⟩
/-- Does a text begin with this word and a space? -/
theorem prefix_cases (w l : Bytes) : (∃ r, l = w ++ 32 :: r) ∨ (l.length ≤ w.length ∨ (w.length < l.length ∧ (l.take w.length ≠ w ∨ (l.take w.length = w ∧ (l.getD w.length 0) ≠ 32)))) := by
  by_cases h1 : l.length ≤ w.length
  · exact .inr (.inl h1)
  · by_cases h2 : l.take w.length = w
    · by_cases h3 : l.getD w.length 0 = 32
      · refine .inl ⟨l.drop (w.length + 1), ?_⟩
        have e := List.take_append_drop w.length l
        rw [h2] at e
        rw [getD_drop (d := 0) (by omega), h3] at e
        exact e.symm
      · exact .inr (.inr ⟨by omega, .inr ⟨h2, h3⟩⟩)
    · exact .inr (.inr ⟨by omega, .inl h2⟩)
/-- No line of this kind. -/
theorem skip_ref {n : Nat} (M : Nat) (l : Bytes) (k : Int) (h1 : 1 ≤ k) (h9 : k ≤ 9) (z : Do) (hno : ∀ r, l ≠ (fm k).w ++ 32 :: r) : f47_4 n (M + 1) (bs l) k z = f47_4 n M (bs l) (k + 1) z := by
  have hw : IntKind.i64.wrap (k + 1) = k + 1 := wI (by omega) (by omega)
  rw [f47_4_eq, decide_eq_true h9, form_ref]
  simp only [cond_true, Option.bind_some, bs_size, bs_extract, bs_toList]
  rw [hw]
  rcases prefix_cases (fm k).w l with ⟨r, e⟩ | h | ⟨h, h' | ⟨h', h''⟩⟩
  · exact (hno r e).elim
  · rw [decide_eq_true (by omega), cond_true]
  · have e1 : (l.drop 0).take ((((fm k).w.length : Nat) : Int).toNat - 0) = l.take (fm k).w.length := by simp
    rw [decide_eq_false (by omega), cond_false, decide_eq_true (by omega), cond_true, e1, beq_false_of_ne h']
    rfl
  · have e1 : (l.drop 0).take ((((fm k).w.length : Nat) : Int).toNat - 0) = l.take (fm k).w.length := by simp
    have hb : (byteAt (bs l) (((fm k).w.length : Nat) : Int) != 32) = true := by
      rw [bs_byte]
      have : (l.getD (fm k).w.length 0).toNat ≠ 32 := fun h0 => h'' (UInt8.toNat_inj.1 h0)
      simp only [bne_iff_ne, ne_eq]
      omega
    rw [decide_eq_false (by omega), cond_false, decide_eq_true (by omega), cond_true, e1, h', beq_self_eq_true, decide_eq_true (by omega), hb]
    rfl
/-- A line of this kind: its rest is read. -/
theorem try_ref {n : Nat} (M : Nat) (l r : Bytes) (hl : l.length ≤ 281474976710656) (k : Int) (h9 : k ≤ 9) (z : Do) (e : l = (fm k).w ++ 32 :: r) :
    ∃ x25 x26 x27 x28 x29 x30 x31 x32 x34 x35 x36 x37 x38 x39 x40 x41 x42, f47_4 n (M + 1 + 1) (bs l) k z = (bif (fm k).m then (f65 n (bs r)).bind fun r1 =>
        f47_25 n M (bs l) k ByteArray.empty r1.2 x25 x26 x27 x28 x29 x30 x31 x32 x34 x35 x36 x37 x38 x39 x40 x41 x42 z (bs (fm k).w, (fm k).k, (fm k).s, (fm k).m, (fm k).least, (fm k).most) (k, (0, ByteArray.empty), r1.1, 0)
      else f47_25 n M (bs l) k (bs r) true x25 x26 x27 x28 x29 x30 x31 x32 x34 x35 x36 x37 x38 x39 x40 x41 x42 z (bs (fm k).w, (fm k).k, (fm k).s, (fm k).m, (fm k).least, (fm k).most) (k, (0, ByteArray.empty), 0, 0)) := by
  have hlen : l.length = (fm k).w.length + (r.length + 1) := by rw [e]; simp
  have e1 : (l.drop 0).take ((((fm k).w.length : Nat) : Int).toNat - 0) = (fm k).w := by rw [e]; simp
  have hb : (byteAt (bs l) (((fm k).w.length : Nat) : Int) != 32) = false := by rw [e, byte_mid]; rfl
  have e2 : (l.drop ((((fm k).w.length + 1 : Nat) : Int)).toNat).take (((l.length : Nat) : Int).toNat - (((fm k).w.length + 1 : Nat) : Int).toNat) = r := by
    rw [show (((fm k).w.length + 1 : Nat) : Int).toNat = (fm k).w.length + 1 from rfl, show ((l.length : Nat) : Int).toNat = l.length from rfl]
    rw [show l.drop ((fm k).w.length + 1) = r by rw [e, show (fm k).w ++ (32 : UInt8) :: r = ((fm k).w ++ [32]) ++ r by simp, List.drop_append_of_le_length (by simp)]; simp]
    exact List.take_of_length_le (by omega)
  have ht := f47_4_eq n (M + 1) (bs l) k z
  rw [decide_eq_true h9, form_ref] at ht
  simp only [cond_true, Option.bind_some, bs_size] at ht
  rw [decide_eq_false (show ¬ ((l.length : Nat) : Int) ≤ (((fm k).w.length : Nat) : Int) by omega), cond_false, decide_eq_true (show (0 : Int) ≤ 0 ∧ (0 : Int) ≤ (((fm k).w.length : Nat) : Int) ∧ (((fm k).w.length : Nat) : Int) ≤ ((l.length : Nat) : Int) by omega), cond_true, bs_extract, bs_toList, e1, bs_toList, beq_self_eq_true, decide_eq_true (show (0 : Int) ≤ (((fm k).w.length : Nat) : Int) ∧ (((fm k).w.length : Nat) : Int) < ((l.length : Nat) : Int) by omega), hb] at ht
  simp only [Bool.not_true, cond_false, cond_true] at ht
  rw [f47_15_eq, castN (by omega), bs_size, decide_eq_true (show (0 : Int) ≤ (((fm k).w.length + 1 : Nat) : Int) ∧ (((fm k).w.length + 1 : Nat) : Int) ≤ ((l.length : Nat) : Int) ∧ ((l.length : Nat) : Int) ≤ ((l.length : Nat) : Int) by omega), cond_true, bs_extract, e2] at ht
  exact ⟨_, _, _, _, _, _, _, _, _, _, _, _, _, _, _, _, _, ht⟩
theorem iter_ref {n : Nat} (M : Nat) (l : Bytes) (hl : l.length ≤ 281474976710656) (hn : l.length + 300 ≤ n) (k : Int) (h1 : 1 ≤ k) (h9 : k ≤ 9) (z : Do) : Next l n M k z (f47_4 n (M + 5) (bs l) k z) := by
  by_cases h : ∃ r, l = (fm k).w ++ 32 :: r
  · obtain ⟨r, e⟩ := h
    have hlen : l.length = (fm k).w.length + (r.length + 1) := by rw [e]; simp
    obtain ⟨x25, x26, x27, x28, x29, x30, x31, x32, x34, x35, x36, x37, x38, x39, x40, x41, x42, ht⟩ := try_ref (n := n) (M + 1 + 1 + 1) l r hl k h9 z e
    rw [show M + 5 = M + 1 + 1 + 1 + 1 + 1 from rfl, ht]
    cases (fm k).m with
    | false =>
      simp only [cond_false]
      exact rest_ref M l r (by omega) (by omega) k h1 h9 true x25 x26 x27 x28 x29 x30 x31 x32 x34 x35 x36 x37 x38 x39 x40 x41 x42 z _ _ (u16_op k 0 0)
    | true =>
      obtain ⟨⟨v, bb⟩, hv⟩ := num_ref_any (n := n) (l := r) (by omega) (by omega)
      simp only [cond_true]
      rw [hv]
      simp only [Option.bind_some]
      exact rest_ref M l [] (by simp) (by simp; omega) k h1 h9 bb x25 x26 x27 x28 x29 x30 x31 x32 x34 x35 x36 x37 x38 x39 x40 x41 x42 z _ _ (u16_op k v 0)
  · refine .inr ⟨M + 4, by omega, ?_⟩
    exact skip_ref (M + 4) l k h1 h9 z (fun r e => h ⟨r, e⟩)
theorem loop_ref {n : Nat} (l : Bytes) (hl : l.length ≤ 281474976710656) (hn : l.length + 300 ≤ n) : ∀ (j : Nat) (k : Int) (M : Nat), k + j = 10 → 1 ≤ k → 5 * j + 1 ≤ M → (∃ d, f47_4 n M (bs l) k dz = some (d, true) ∧ Snd l d) ∨ f47_4 n M (bs l) k dz = some (dz, false) := by
  intro j
  induction j with
  | zero =>
    intro k M hk h1 hM
    obtain ⟨M, rfl⟩ : ∃ p, M = p + 1 := ⟨M - 1, by omega⟩
    rw [f47_4_eq, decide_eq_false (by omega)]
    exact .inr rfl
  | succ j ih =>
    intro k M hk h1 hM
    obtain ⟨M, rfl⟩ : ∃ p, M = p + 5 := ⟨M - 5, by omega⟩
    rcases iter_ref (n := n) M l hl hn k h1 (by omega) dz with h | ⟨M', h2, h3⟩
    · exact .inl h
    · rw [h3]
      exact ih (k + 1) M' (by omega) (by omega) (by omega)
theorem read_ref {n : Nat} {l : Bytes} (hl : l.length ≤ 281474976710656) (hn : l.length + 300 ≤ n) : (∃ d, f47 n (bs l) = some (d, true) ∧ Snd l d) ∨ f47 n (bs l) = some (dz, false) := by
  rw [f47_eq]
  exact loop_ref l hl hn 9 1 n (by omega) (by omega) (by omega)
/-! ### the line of what may be -/
theorem word_only {a b : Int} {r r' : Bytes} (h : (fm a).w ++ 32 :: r = (fm b).w ++ 32 :: r') (hb : (fm b).w ≠ []) : a = b := by
  have key : ∀ (x y r r' : Bytes), (32 : UInt8) ∉ x → (32 : UInt8) ∉ y → x ++ 32 :: r = y ++ 32 :: r' → x = y := by
    intro x
    induction x with
    | nil =>
      intro y r r' _ hy h
      cases y with
      | nil => rfl
      | cons c y =>
        simp only [List.nil_append, List.cons_append, List.cons.injEq] at h
        exact (hy (by rw [← h.1]; simp)).elim
    | cons c x ih =>
      intro y r r' hx hy h
      cases y with
      | nil =>
        simp only [List.nil_append, List.cons_append, List.cons.injEq] at h
        exact (hx (by rw [h.1]; simp)).elim
      | cons c' y =>
        simp only [List.cons_append, List.cons.injEq] at h
        simp only [List.mem_cons, not_or] at hx hy
        rw [h.1, ih y r r' hx.2 hy.2 h.2]
  have e := key _ _ _ _ (w_nospace a) (w_nospace b) h
  exact (w_inj e.symm hb).symm
theorem fin_ref_line {n : Nat} (hn : 100 ≤ n) (M : Nat) (k : Int) (x25 : ByteArray) (x26 x27 : Int) (x28 x29 : Bool) (x30 : ByteArray) (x31 : Int) (x32 x34 : ByteArray) (x35 x36 x37 : Bool) (x38 : ByteArray) (x39 x40 : Int) (x41 x42 : Bool) (z : Do) (f : ByteArray × (Bool × (Bool × (Bool × (Int × Int))))) {d : Do} (h : MayD d) (hu : U16 d) :
    f47_39 n (M + 1) (bs (lineL d)) k true x25 x26 x27 x28 x29 x30 x31 x32 x34 x35 x36 x37 x38 x39 x40 x41 x42 z f d = some (d, true) := by
  rw [f47_39_eq]
  simp only [cond_true]
  rw [may_ref (by omega), mayB_iff.2 h]
  simp only [Option.bind_some, cond_true]
  rw [line_ref hn (parts_of h hu)]
  simp only [Option.bind_some, beq_self_eq_true, cond_true]
theorem try_line {n : Nat} (hn : 1000 ≤ n) (M : Nat) {d : Do} (h : MayD d) (hu : U16 d) (z : Do) : f47_4 n (M + 5) (bs (lineL d)) d.1 z = some (d, true) := by
  have P := parts_of h hu
  have hlen := line_len P
  obtain ⟨nk, ns, nm⟩ := not_named h
  obtain ⟨x25, x26, x27, x28, x29, x30, x31, x32, x34, x35, x36, x37, x38, x39, x40, x41, x42, ht⟩ := try_ref (n := n) (M + 1 + 1 + 1) (lineL d) (restL d) (by omega) d.1 (w_range h.w).2 z (line_rest h)
  have fin : ∀ d' : Do, d' = d → f47_39 n (M + 1) (bs (lineL d)) d.1 true x25 x26 x27 x28 x29 x30 x31 x32 x34 x35 x36 x37 x38 x39 x40 x41 x42 z (bs (fm d.1).w, (fm d.1).k, (fm d.1).s, (fm d.1).m, (fm d.1).least, (fm d.1).most) d' = some (d, true) := by
    intro d' e
    rw [e]
    exact fin_ref_line (by omega) M d.1 x25 x26 x27 x28 x29 x30 x31 x32 x34 x35 x36 x37 x38 x39 x40 x41 x42 z _ h hu
  rw [show M + 5 = M + 1 + 1 + 1 + 1 + 1 from rfl, ht]
  rcases flags d.1 h.w with ⟨hk, hm⟩ | ⟨hk, hs, hm⟩ | ⟨hk, hs, hm⟩
  · obtain ⟨k1, k2, k3⟩ := P.k hk
    have hkl := (keyL_len k1 k2 k3).1
    rw [hm, cond_false, f47_25_eq]
    cases hs : (fm d.1).s with
    | true =>
      obtain ⟨u, e, hlu⟩ := P.s hs
      have hd20 : (decDigits u).length ≤ 20 := dec20 (by omega)
      have er : restL d = keyL d.2.1 ++ 32 :: decDigits u := by unfold restL; rw [if_pos hk, if_pos hs, e]; rfl
      have hl2 : (keyL d.2.1 ++ (32 : UInt8) :: decDigits u).length = (keyL d.2.1).length + (decDigits u).length + 1 := by simp; omega
      simp only [cond_true]
      rw [er, last_ref_at (dec_nospace u) (by omega) (by omega)]
      simp only [Option.bind_some]
      rw [num_ref_dec (by omega) (by omega)]
      simp only [Option.bind_some]
      rw [f47_33_eq]
      simp only [hk, cond_true]
      rw [key_ref_dec (by omega) k1 k2 k3]
      simp only [Option.bind_some]
      rw [show decide ((-1 : Int) < 0) = true from rfl]
      have := fin (d.1, d.2.1, (0 : Int), ((u : Nat) : Int)) (do_ext rfl rfl (nm hm).symm e.symm)
      rw [hk, hs, hm] at this
      exact this
    | false =>
      have er : restL d = keyL d.2.1 := by unfold restL; rw [if_pos hk, if_neg (by rw [hs]; simp)]; simp
      simp only [cond_false]
      rw [er, f47_33_eq]
      simp only [hk, cond_true]
      rw [key_ref_dec (by omega) k1 k2 k3]
      simp only [Option.bind_some]
      rw [show decide ((-1 : Int) < 0) = true from rfl]
      have := fin (d.1, d.2.1, (0 : Int), (0 : Int)) (do_ext rfl rfl (nm hm).symm (ns hs).symm)
      rw [hk, hs, hm] at this
      exact this
  · obtain ⟨u, e, hlu⟩ := P.s hs
    have hd20 : (decDigits u).length ≤ 20 := dec20 (by omega)
    have er : restL d = decDigits u := by unfold restL; rw [if_neg (by rw [hk]; simp), if_pos hs, e]; rfl
    rw [hm, cond_false, f47_25_eq, er]
    simp only [hs, cond_true]
    rw [last_ref_none (dec_nospace u) (by omega) (by omega)]
    simp only [Option.bind_some]
    rw [num_ref_dec (by omega) (by omega)]
    simp only [Option.bind_some]
    rw [f47_33_eq]
    simp only [hk, cond_false]
    have := fin (d.1, ((0 : Int), ByteArray.empty), (0 : Int), ((u : Nat) : Int)) (do_ext rfl (nk hk).symm (nm hm).symm e.symm)
    rw [hk, hs, hm] at this
    exact this
  · obtain ⟨u, e, hlu⟩ := P.m hm
    have er : restL d = decDigits u := by unfold restL; rw [if_neg (by rw [hk]; simp), if_neg (by rw [hs]; simp), e]; rfl
    rw [hm, cond_true, er, num_ref_dec (by omega) (by omega)]
    simp only [Option.bind_some]
    rw [f47_25_eq]
    simp only [hs, cond_false]
    rw [show ByteArray.empty = bs [] from rfl, f47_33_eq]
    simp only [hk, cond_false]
    have := fin (d.1, ((0 : Int), ByteArray.empty), ((u : Nat) : Int), (0 : Int)) (do_ext rfl (nk hk).symm e.symm (ns hs).symm)
    rw [hk, hs, hm] at this
    exact this
theorem loop_line {n : Nat} (hn : 1000 ≤ n) {d : Do} (h : MayD d) (hu : U16 d) : ∀ (j : Nat) (k : Int) (M : Nat), k + j = d.1 → 1 ≤ k → j + 5 ≤ M → f47_4 n M (bs (lineL d)) k dz = some (d, true) := by
  intro j
  induction j with
  | zero =>
    intro k M hk h1 hM
    obtain ⟨M, rfl⟩ : ∃ p, M = p + 5 := ⟨M - 5, by omega⟩
    rw [show k = d.1 by omega]
    exact try_line hn M h hu dz
  | succ j ih =>
    intro k M hk h1 hM
    obtain ⟨M, rfl⟩ : ∃ p, M = p + 1 := ⟨M - 1, by omega⟩
    have h9 := (w_range h.w).2
    rw [skip_ref M (lineL d) k h1 (by omega) dz (fun r e => by
      rw [line_rest h] at e
      have := word_only e.symm h.w
      omega)]
    exact ih (k + 1) M (by omega) (by omega) (by omega)
theorem read_ref_line {n : Nat} (hn : 1000 ≤ n) {d : Do} (h : MayD d) (hu : U16 d) : f47 n (bs (lineL d)) = some (d, true) := by
  obtain ⟨h1, h9⟩ := w_range h.w
  obtain ⟨j, hj⟩ := Int.eq_ofNat_of_zero_le (show 0 ≤ d.1 - 1 by omega)
  rw [f47_eq]
  exact loop_line hn h hu j 1 n (by omega) (by omega) (by omega)
/-- A line is read alike by both. -/
theorem read_alike {n : Nat} {l : Bytes} (hl : l.length ≤ 281474976710656) (hn : 3 * l.length + 1000 ≤ n) : (∃ d, f46 n (bs l) = some (d, true) ∧ f47 n (bs l) = some (d, true) ∧ Snd l d) ∨ (∃ d d', f46 n (bs l) = some (d, false) ∧ f47 n (bs l) = some (d', false)) := by
  obtain ⟨d, b, h1, h2⟩ := read_go (n := n) hl (by omega)
  cases b with
  | true =>
    have s := h2 rfl
    refine .inl ⟨d, h1, ?_, s⟩
    have := read_ref_line (n := n) (by omega) s.may s.u
    rw [s.ln] at this
    exact this
  | false =>
    refine .inr ⟨d, ?_⟩
    rcases read_ref (n := n) hl (by omega) with ⟨d', h3, s⟩ | h3
    · have := read_go_line (n := n) (by omega) s.may s.u
      rw [s.ln, h1] at this
      cases this
    · exact ⟨dz, h1, h3⟩
open Go.Rf Go.Lib
/-! ### any text -/
theorem end_alike (n : Nat) (l : Bytes) (hl : l.length ≤ 1048576) (c : Int) (acc : List Do) (hacc : acc.length ≤ 1048577) (i : Int) (M M' : Nat) :
    ∃ out, f26_6 n (M + 1) (bs []) i acc = some out ∧ f27_8 n (M' + 3) (bs l) c ((l.length : Nat) : Int) ((l.length : Nat) : Int) acc = some out ∧ out.1.length ≤ 1048577 := by
  rw [f26_6_eq, show M' + 3 = M' + 1 + 1 + 1 from rfl, f27_8_eq, f27_15_eq, f27_29_eq, bs_size, bs_toList, empty_toList]
  rw [decide_eq_true (Int.le_refl _), decide_eq_false (Int.lt_irrefl _), beq_self_eq_true, beq_self_eq_true]
  simp only [beq_self_eq_true, Bool.not_true, cond_false, cond_true]
  by_cases h : ((acc.length : Nat) : Int) > 256
  · rw [decide_eq_true h]
    exact ⟨_, rfl, rfl, by simp⟩
  · rw [decide_eq_false h]
    exact ⟨_, rfl, rfl, hacc⟩
/-- The document looks for the line's end. -/
theorem scan_ref (n : Nat) (pre a b : Bytes) (h : (10 : UInt8) ∉ a) (hl : (pre ++ a ++ b).length ≤ 1048576) (c f : Int) (acc : List Do) (hb : b = [] ∨ ∃ b', b = 10 :: b') :
    ∀ (k j M : Nat), j + k = a.length → k + 1 ≤ M → ∃ M', M ≤ M' + k + 1 ∧ f27_8 n M (bs (pre ++ a ++ b)) c f ((pre.length + j : Nat) : Int) acc = f27_15 n M' (bs (pre ++ a ++ b)) c f ((pre.length + a.length : Nat) : Int) acc := by
  have hlen : (pre ++ a ++ b).length = pre.length + a.length + b.length := by simp; omega
  intro k
  induction k with
  | zero =>
    intro j M hj hM
    obtain ⟨M, rfl⟩ : ∃ p, M = p + 1 := ⟨M - 1, by omega⟩
    refine ⟨M, by omega, ?_⟩
    obtain rfl : j = a.length := by omega
    rw [f27_8_eq, bs_size, decide_eq_true (by omega), cond_true]
    rcases hb with rfl | ⟨b', rfl⟩
    · rw [decide_eq_false (by rw [hlen]; simp), cond_false]
    · have hb : byteAt (bs (pre ++ a ++ 10 :: b')) ((pre.length + a.length : Nat) : Int) = 10 := by
        have := byte_mid (l1 := pre ++ a) (l2 := b') (c := 10)
        rw [List.length_append] at this
        exact this
      rw [decide_eq_true (by rw [hlen]; simp; omega), decide_eq_true (by rw [hlen]; simp; omega), hb]
      rfl
  | succ k ih =>
    intro j M hj hM
    obtain ⟨M, rfl⟩ : ∃ p, M = p + 1 := ⟨M - 1, by omega⟩
    have hne : (byteAt (bs (pre ++ a ++ b)) ((pre.length + j : Nat) : Int) != 10) = true := by
      rw [bs_byte]
      have hj' : j < a.length := by omega
      have e : (pre ++ a ++ b).getD (pre.length + j) 0 = a.getD j 0 := by
        simp only [List.getD]
        rw [List.append_assoc, List.getElem?_append_right (by omega), show pre.length + j - pre.length = j by omega, List.getElem?_append_left hj']
      rw [e]
      have hmem : a.getD j 0 ∈ a := by simp [hj']
      have : a.getD j 0 ≠ 10 := fun h' => h (h' ▸ hmem)
      have : (a.getD j 0).toNat ≠ 10 := fun h' => this (UInt8.toNat_inj.1 h')
      simp only [bne_iff_ne, ne_eq]
      omega
    obtain ⟨M', h1, h2⟩ := ih (j + 1) M (by omega) (by omega)
    refine ⟨M', by omega, ?_⟩
    rw [f27_8_eq, bs_size, decide_eq_true (by omega), cond_true, decide_eq_true (by omega), decide_eq_true (by omega), hne, castN (by omega)]
    simp only [cond_true]
    exact h2
theorem line_at (n M : Nat) (pre a b : Bytes) (hl : (pre ++ a ++ b).length ≤ 1048576) (c : Int) (acc : List Do) (ha : pre.length + a.length < (pre ++ a ++ b).length ∨ a ≠ []) :
    f27_15 n (M + 1 + 1) (bs (pre ++ a ++ b)) c ((pre.length : Nat) : Int) ((pre.length + a.length : Nat) : Int) acc = (f47 n (bs a)).bind fun r1 =>
      bif !r1.2 then some ([], c, 212) else bif ((pre.length + a.length : Nat) : Int) == (((pre ++ a ++ b).length : Nat) : Int) then some ([], c, 212) else
      bif decide ((acc.length + [r1.1].length) * 48 ≤ maxBytes) then f27_8 n M (bs (pre ++ a ++ b)) (IntKind.i64.wrap (c + 1)) (IntKind.i64.wrap (((pre.length + a.length : Nat) : Int) + 1)) (IntKind.i64.wrap (((pre.length + a.length : Nat) : Int) + 1)) (acc ++ [r1.1]) else none := by
  have hlen : (pre ++ a ++ b).length = pre.length + a.length + b.length := by simp; omega
  have e2 : ((pre ++ a ++ b).drop (((pre.length : Nat) : Int)).toNat).take ((((pre.length + a.length : Nat) : Int)).toNat - ((pre.length : Nat) : Int).toNat) = a := by
    rw [show (((pre.length + a.length : Nat) : Int)).toNat = pre.length + a.length from rfl, show ((pre.length : Nat) : Int).toNat = pre.length from rfl, List.append_assoc, List.drop_left, Nat.add_sub_cancel_left, List.take_left]
  have h17 : f27_17 n (M + 1) (bs (pre ++ a ++ b)) c ((pre.length : Nat) : Int) ((pre.length + a.length : Nat) : Int) acc = (f47 n (bs a)).bind fun r1 =>
      bif !r1.2 then some ([], c, 212) else bif ((pre.length + a.length : Nat) : Int) == (((pre ++ a ++ b).length : Nat) : Int) then some ([], c, 212) else
      bif decide ((acc.length + [r1.1].length) * 48 ≤ maxBytes) then f27_8 n M (bs (pre ++ a ++ b)) (IntKind.i64.wrap (c + 1)) (IntKind.i64.wrap (((pre.length + a.length : Nat) : Int) + 1)) (IntKind.i64.wrap (((pre.length + a.length : Nat) : Int) + 1)) (acc ++ [r1.1]) else none := by
    rw [f27_17_eq, bs_size, decide_eq_true (by omega), cond_true, bs_extract, e2]
  rw [f27_15_eq, h17, bs_size]
  by_cases h : ((pre.length + a.length : Nat) : Int) = (((pre ++ a ++ b).length : Nat) : Int)
  · have hne : ((pre.length : Nat) : Int) ≠ ((pre.length + a.length : Nat) : Int) := by
      rcases ha with h' | h'
      · omega
      · have : 1 ≤ a.length := by
          cases a with
          | nil => exact (h' rfl).elim
          | cons _ _ => simp
        omega
    rw [h, beq_self_eq_true, cond_true, ← h, beq_false_of_ne hne, cond_false]
  · rw [beq_false_of_ne h, cond_false]
theorem fits48 {acc : List Do} {d : Do} (h : acc.length ≤ 1048577) : decide ((acc.length + [d].length) * 48 ≤ maxBytes) = true := by
  apply decide_eq_true
  unfold maxBytes
  rw [List.length_singleton]
  omega
theorem parse_alike {n : Nat} (hn : 4194304 ≤ n) : ∀ (N : Nat) (r pre : Bytes) (acc : List Do) (i M M' : Nat), r.length ≤ N → (pre ++ r).length ≤ 1048576 → i ≤ pre.length → acc.length ≤ pre.length → r.length + 1 ≤ M → 4 * r.length + 3 ≤ M' →
    ∃ out, f26_6 n M (bs r) ((i : Nat) : Int) acc = some out ∧ f27_8 n M' (bs (pre ++ r)) ((i : Nat) : Int) ((pre.length : Nat) : Int) ((pre.length : Nat) : Int) acc = some out ∧ out.1.length ≤ 1048577 := by
  intro N
  induction N with
  | zero =>
    intro r pre acc i M M' hr hl hi hacc hM hM'
    obtain rfl : r = [] := List.eq_nil_of_length_eq_zero (by omega)
    obtain ⟨M, rfl⟩ : ∃ p, M = p + 1 := ⟨M - 1, by omega⟩
    obtain ⟨M', rfl⟩ : ∃ p, M' = p + 3 := ⟨M' - 3, by omega⟩
    rw [List.append_nil] at hl ⊢
    exact end_alike n pre hl _ acc (by omega) _ M M'
  | succ N ih =>
    intro r pre acc i M M' hr hl hi hacc hM hM'
    have hlr : (pre ++ r).length = pre.length + r.length := by simp
    by_cases h0 : r = []
    · exact ih r pre acc i M M' (by rw [h0]; simp) hl hi hacc hM hM'
    obtain ⟨M, rfl⟩ : ∃ p, M = p + 1 := ⟨M - 1, by omega⟩
    have h1 : 1 ≤ r.length := by
      cases r with
      | nil => exact (h0 rfl).elim
      | cons _ _ => simp
    have hne : (!((bs r).toList == ByteArray.empty.toList)) = true := by
      rw [bs_toList, empty_toList]
      cases r with
      | nil => exact (h0 rfl).elim
      | cons _ _ => rfl
    rw [f26_6_eq, hne]
    simp only [cond_true]
    rcases split_byte 10 r with h | ⟨a, b, e, h⟩
    · -- no end of line
      rw [show s26x0 = bs [10] from rfl, cut_no n h]
      simp only [Option.bind_some]
      obtain ⟨M2, hM2, hs⟩ := scan_ref n pre r [] h (by simpa using hl) ((i : Nat) : Int) ((pre.length : Nat) : Int) acc (.inl rfl) r.length 0 M' (by omega) (by omega)
      obtain ⟨M2, rfl⟩ : ∃ p, M2 = p + 1 + 1 := ⟨M2 - 2, by omega⟩
      have hq := line_at n M2 pre r [] (by simpa using hl) ((i : Nat) : Int) acc (.inr h0)
      rw [List.append_nil] at hs hq
      have hs : f27_8 n M' (bs (pre ++ r)) ((i : Nat) : Int) ((pre.length : Nat) : Int) ((pre.length : Nat) : Int) acc = _ := hs
      rw [hs, hq]
      refine ⟨([], ((i : Nat) : Int), 212), ?_, ?_, by simp⟩
      · rcases read_alike (n := n) (l := r) (by omega) (by omega) with ⟨d, h1, h2, _⟩ | ⟨d, d', h1, h2⟩
        · rw [h1]; rfl
        · rw [h1]; rfl
      · rcases read_alike (n := n) (l := r) (by omega) (by omega) with ⟨d, h1, h2, _⟩ | ⟨d, d', h1, h2⟩
        · rw [h2]
          simp only [Option.bind_some, Bool.not_true, cond_false]
          rw [show (((pre.length + r.length : Nat) : Int) == (((pre ++ r).length : Nat) : Int)) = true by rw [hlr]; exact beq_self_eq_true _]
          rfl
        · rw [h2]; rfl
    · -- a line, and what is left
      subst e
      have hlab : (a ++ (10 : UInt8) :: b).length = a.length + b.length + 1 := by simp; omega
      rw [show s26x0 = bs [10] from rfl, cut_at n h (by omega)]
      simp only [Option.bind_some]
      have eq1 : pre ++ (a ++ (10 : UInt8) :: b) = pre ++ a ++ 10 :: b := by simp
      rw [eq1] at hl ⊢
      have hlen2 : (pre ++ a ++ (10 : UInt8) :: b).length = pre.length + a.length + (b.length + 1) := by simp; omega
      obtain ⟨M2, hM2, hs⟩ := scan_ref n pre a (10 :: b) h hl ((i : Nat) : Int) ((pre.length : Nat) : Int) acc (.inr ⟨b, rfl⟩) a.length 0 M' (by omega) (by omega)
      obtain ⟨M2, rfl⟩ : ∃ p, M2 = p + 1 + 1 := ⟨M2 - 2, by omega⟩
      have hq := line_at n M2 pre a (10 :: b) hl ((i : Nat) : Int) acc (.inl (by omega))
      have hs : f27_8 n M' (bs (pre ++ a ++ 10 :: b)) ((i : Nat) : Int) ((pre.length : Nat) : Int) ((pre.length : Nat) : Int) acc = _ := hs
      rw [hs, hq]
      rcases read_alike (n := n) (l := a) (by omega) (by omega) with ⟨d, h1, h2, _⟩ | ⟨d, d', h1, h2⟩
      · rw [h1, h2]
        simp only [Option.bind_some, Bool.not_true, cond_false]
        rw [show (((pre.length + a.length : Nat) : Int) == (((pre ++ a ++ (10 : UInt8) :: b).length : Nat) : Int)) = false from beq_false_of_ne (by omega), cond_false, fits48 (by omega), cond_true, cond_true, castN (by omega), castN (by omega)]
        have := ih b (pre ++ a ++ [10]) (acc ++ [d]) (i + 1) M M2 (by omega) (by simp at hl ⊢; omega) (by simp; omega) (by simp; omega) (by omega) (by omega)
        rw [show pre ++ a ++ [10] ++ b = pre ++ a ++ 10 :: b by simp, show (pre ++ a ++ [(10 : UInt8)]).length = pre.length + a.length + 1 from by simp; omega] at this
        exact this
      · rw [h1, h2]
        exact ⟨_, rfl, rfl, by simp⟩
theorem texts_alike {n : Nat} (hn : 8388608 ≤ n) {l : Bytes} (hl : l.length ≤ 1048576) : ∃ out, f26 n (bs l) = some out ∧ f27 n (bs l) = some out ∧ out.1.length ≤ 1048577 := by
  rw [f26_eq, f27_eq]
  exact parse_alike (by omega) l.length l [] [] 0 n n (Nat.le_refl _) (by simpa using hl) (by simp) (by simp) (by omega) (by omega)
/-! ### the lines of what may be -/
def textL (l : List Do) : Bytes := l.flatMap fun d => lineL d ++ [10]
/-- It may be, and its name has no end of line. -/
structure Fine (d : Do) : Prop where
  may : MayD d
  u : U16 d
  nl : (10 : UInt8) ∉ d.2.1.2.data.toList
theorem w_noend (op : Int) : (10 : UInt8) ∉ (fm op).w := by
  rcases op_cases op with h | h
  · rcases h with e | e | e | e | e | e | e | e | e <;> subst e <;> decide
  · rw [h]; decide
theorem dec_noend (u : Nat) : (10 : UInt8) ∉ decDigits u := fun h => by
  have := dec_digs u _ h
  unfold isDig at this
  simp at this
theorem line_noend {d : Do} (h : Fine d) : (10 : UInt8) ∉ lineL d := by
  have hk : (10 : UInt8) ∉ keyL d.2.1 := by
    unfold keyL
    simp only [List.mem_append, List.mem_cons, not_or]
    exact ⟨dec_noend _, by decide, h.nl⟩
  unfold lineL
  simp only [List.mem_append, not_or]
  refine ⟨w_noend _, ?_, ?_, ?_⟩
  · split
    · simp only [List.mem_cons, not_or]; exact ⟨by decide, hk⟩
    · simp
  · split
    · simp only [List.mem_cons, not_or]; exact ⟨by decide, dec_noend _⟩
    · simp
  · split
    · simp only [List.mem_cons, not_or]; exact ⟨by decide, dec_noend _⟩
    · simp
theorem text_len {l : List Do} (h : ∀ d ∈ l, Fine d) : (textL l).length ≤ 201 * l.length := by
  induction l with
  | nil => simp [textL]
  | cons d l ih =>
    have hd := h d (by simp)
    have h1 := line_len (parts_of hd.may hd.u)
    have h2 := ih (fun x hx => h x (by simp [hx]))
    show ((lineL d ++ [10]) ++ textL l).length ≤ _
    simp only [List.length_append, List.length_cons, List.length_nil]
    omega
theorem back_loop {n : Nat} (hn : 4194304 ≤ n) : ∀ (l : List Do) (acc : List Do) (i M : Nat), (∀ d ∈ l, Fine d) → (acc ++ l).length ≤ 256 → i ≤ 1000 - l.length → l.length ≤ 256 → l.length + 1 ≤ M → f26_6 n M (bs (textL l)) ((i : Nat) : Int) acc = some (acc ++ l, 0, 0) := by
  intro l
  induction l with
  | nil =>
    intro acc i M _ hacc hi hl hM
    obtain ⟨M, rfl⟩ : ∃ p, M = p + 1 := ⟨M - 1, by omega⟩
    rw [List.append_nil] at hacc
    rw [f26_6_eq, show textL [] = [] from rfl, bs_toList, empty_toList]
    simp only [beq_self_eq_true, Bool.not_true, cond_false]
    rw [decide_eq_false (by omega), List.append_nil]
    rfl
  | cons d l ih =>
    intro acc i M hf hacc hi hl hM
    obtain ⟨M, rfl⟩ : ∃ p, M = p + 1 := ⟨M - 1, by omega⟩
    have hd := hf d (by simp)
    have hll := line_len (parts_of hd.may hd.u)
    have htl := text_len hf
    have e : textL (d :: l) = lineL d ++ 10 :: textL l := by
      show (lineL d ++ [10]) ++ textL l = _
      simp
    have hne : (!((bs (textL (d :: l))).toList == ByteArray.empty.toList)) = true := by
      rw [bs_toList, empty_toList, e]
      cases lineL d <;> rfl
    rw [List.length_cons] at hl hM hi htl
    rw [List.length_append, List.length_cons] at hacc
    rw [f26_6_eq, hne]
    simp only [cond_true]
    rw [e] at htl ⊢
    rw [show s26x0 = bs [10] from rfl, cut_at n (line_noend hd) (by omega)]
    simp only [Option.bind_some]
    rw [read_go_line (by omega) hd.may hd.u]
    simp only [Option.bind_some, Bool.not_true, cond_false]
    rw [fits48 (by omega), cond_true, castN (by omega), ih (acc ++ [d]) (i + 1) M (fun x hx => hf x (by simp [hx])) (by simp; omega) (by omega) (by omega) (by omega)]
    simp
theorem read_back {n : Nat} (hn : 8388608 ≤ n) {l : List Do} (h : ∀ d ∈ l, Fine d) (hl : l.length ≤ 256) : f26 n (bs (textL l)) = some (l, 0, 0) := by
  rw [f26_eq]
  exact back_loop (by omega) l [] 0 n h (by simpa using hl) (by omega) hl (by omega)
open Go.Rf Go.Lib
theorem may_all {n : Nat} (hn : 2 ≤ n) (l : List Do) (hl : l.length ≤ 2932031007317) : ∀ (M i : Nat) (a : Int), f10_8 n M l ((i : Nat) : Int) = some (a, 0) → ∀ j, i ≤ j → j < l.length → MayD (l.getD j dz) := by
  intro M
  induction M with
  | zero => intro i a h; rw [f10_8_zero] at h; cases h
  | succ M ih =>
    intro i a h j hij hj
    rw [f10_8_eq, decide_eq_true (by omega), decide_eq_true (by omega), may_ref hn] at h
    simp only [cond_true, Option.bind_some, Int.toNat_natCast] at h
    cases hm : mayB (l.getD i dz) with
    | false =>
      rw [show mayB (l.getD i ((0 : Int), ((0 : Int), ByteArray.empty), (0 : Int), (0 : Int))) = false from hm] at h
      simp only [Bool.not_false, cond_true, Option.some.injEq, Prod.mk.injEq] at h
      exact absurd h.2 (by decide)
    | true =>
      rw [show mayB (l.getD i ((0 : Int), ((0 : Int), ByteArray.empty), (0 : Int), (0 : Int))) = true from hm, castN (by omega)] at h
      simp only [Bool.not_true, cond_false] at h
      by_cases e : i = j
      · subst e; exact mayB_iff.1 hm
      · exact ih (i + 1) a h j (by omega) hj
theorem may_list {n : Nat} (hn : 2 ≤ n) {l : List Do} (hl : l.length ≤ 2932031007317) {a : Int} (h : f10 n l = some (a, 0)) : ∀ d ∈ l, MayD d := by
  rw [f10_eq] at h
  intro d hd
  obtain ⟨j, hj, rfl⟩ := List.getElem_of_mem hd
  by_cases h' : ((l.length : Nat) : Int) > 256
  · rw [decide_eq_true h'] at h
    simp only [cond_true, Option.some.injEq, Prod.mk.injEq] at h
    exact absurd h.2 (by decide)
  · rw [decide_eq_false h'] at h
    simp only [cond_false] at h
    have := may_all hn l hl n 0 a h j (Nat.zero_le _) hj
    simpa [List.getD, hj] using this
theorem has_end (n : Nat) (b : Bytes) : ∃ q, f40 n (bs b) (bs [10]) = some q ∧ (q = true ↔ (10 : UInt8) ∈ b) := by
  refine ⟨decide (0 ≤ indexByte b 10), ?_, ?_⟩
  · show containsF (bs b) (bs [10]) = _
    unfold containsF
    rw [bs_list, bs_list]
  · rw [decide_eq_true_iff]
    rcases split_byte 10 b with h | ⟨a, c, e, h⟩
    · rw [index_none h]
      exact ⟨fun h' => by omega, fun h' => (h h').elim⟩
    · rw [e, index_some h]
      exact ⟨fun _ => by simp, fun _ => by omega⟩
theorem bytesL_bs (l : Bytes) : bytesL (bs l) = l.map fun x => (x.toNat : Int) := rfl
theorem write_bs (t s : Bytes) (h : t.length + s.length ≤ 140737488355328) : writeF (bytesL (bs t)) (bs s) = some (bytesL (bs (t ++ s))) := by
  unfold writeF
  rw [if_pos (by rw [bytesL_bs, List.length_map, bs_size]; exact h)]
  rw [bytesL_bs, bytesL_bs, bytesL_bs, List.map_append]
theorem text_bs (t : Bytes) : textF (bytesL (bs t)) = some (bs t) := by
  have e : mkBytes (bytesL (bs t)) = bs t := by
    unfold mkBytes
    rw [bytesL_bs, List.map_map]
    have : (t.map ((fun n : Int => UInt8.ofNat n.toNat) ∘ fun x : UInt8 => (x.toNat : Int))) = t := by
      have : ((fun n : Int => UInt8.ofNat n.toNat) ∘ fun x : UInt8 => (x.toNat : Int)) = id := by
        funext x
        show UInt8.ofNat ((x.toNat : Int)).toNat = x
        rw [Int.toNat_natCast]
        simp
      rw [this, List.map_id]
    rw [this]
    rfl
  unfold textF
  rw [e, if_pos rfl]
/-! ### the document's text -/
theorem scan_name (n : Nat) (l : List Do) (s : ByteArray) (i : Nat) (hi : i < l.length) (hl : l.length ≤ 256) (a b : Bytes) (hn : (l.getD i dz).2.1.2 = bs (a ++ b)) (ha : (10 : UInt8) ∉ a) (hlen : (a ++ b).length ≤ 64) :
    ∀ (k j M : Nat), j + k = a.length → f25_18 n (M + k) l s ((i : Nat) : Int) ((j : Nat) : Int) = f25_18 n M l s ((i : Nat) : Int) ((a.length : Nat) : Int) := by
  have hab : (a ++ b).length = a.length + b.length := by simp
  intro k
  induction k with
  | zero =>
    intro j M hj
    rw [show j = a.length by omega]
    rfl
  | succ k ih =>
    intro j M hj
    have hne : (byteAt (bs (a ++ b)) ((j : Nat) : Int) == 10) = false := by
      rw [bs_byte]
      have hj' : j < a.length := by omega
      have e : (a ++ b).getD j 0 = a.getD j 0 := by
        simp only [List.getD]
        rw [List.getElem?_append_left hj']
      rw [e]
      have hmem : a.getD j 0 ∈ a := by simp [hj']
      have : a.getD j 0 ≠ 10 := fun h' => ha (h' ▸ hmem)
      have : (a.getD j 0).toNat ≠ 10 := fun h' => this (UInt8.toNat_inj.1 h')
      exact beq_false_of_ne (by omega)
    have hn' : (l.getD ((i : Nat) : Int).toNat ((0 : Int), ((0 : Int), ByteArray.empty), (0 : Int), (0 : Int))).2.1.2 = bs (a ++ b) := hn
    rw [show M + (k + 1) = (M + k) + 1 by omega, f25_18_eq, hn', bs_size, decide_eq_true (show 0 ≤ ((i : Nat) : Int) ∧ ((i : Nat) : Int) < ((l.length : Nat) : Int) by omega), cond_true, cond_true, decide_eq_true (by omega), cond_true, decide_eq_true (by omega), cond_true, hne, cond_false, castN (by omega)]
    exact ih (j + 1) M (by omega)
theorem name_end (n M : Nat) (l : List Do) (s : ByteArray) (i : Nat) (hi : i < l.length) (a b : Bytes) (hn : (l.getD i dz).2.1.2 = bs (a ++ 10 :: b)) : f25_18 n (M + 1) l s ((i : Nat) : Int) ((a.length : Nat) : Int) = some (ByteArray.empty, ((i : Nat) : Int), 212) := by
  have hn' : (l.getD ((i : Nat) : Int).toNat ((0 : Int), ((0 : Int), ByteArray.empty), (0 : Int), (0 : Int))).2.1.2 = bs (a ++ 10 :: b) := hn
  have hlen : (a ++ (10 : UInt8) :: b).length = a.length + b.length + 1 := by simp; omega
  rw [f25_18_eq, hn', bs_size, byte_mid, decide_eq_true (show 0 ≤ ((i : Nat) : Int) ∧ ((i : Nat) : Int) < ((l.length : Nat) : Int) by omega), cond_true, cond_true, decide_eq_true (by omega), cond_true, decide_eq_true (by omega), cond_true]
  rfl
theorem name_done {n : Nat} (hn : 100 ≤ n) (M : Nat) (l : List Do) (t : Bytes) (ht : t.length ≤ 100000) (i : Nat) (hi : i < l.length) (hl : l.length ≤ 256) (hp : Parts (l.getD i dz)) (a : Bytes) (hnm : (l.getD i dz).2.1.2 = bs a) :
    f25_18 n (M + 1) l (bs t) ((i : Nat) : Int) ((a.length : Nat) : Int) = f25_12 n M l (bs (t ++ (lineL (l.getD i dz) ++ [10]))) ((i + 1 : Nat) : Int) := by
  have hn' : (l.getD ((i : Nat) : Int).toNat ((0 : Int), ((0 : Int), ByteArray.empty), (0 : Int), (0 : Int))).2.1.2 = bs a := hnm
  have hg : f44 n (l.getD ((i : Nat) : Int).toNat ((0 : Int), ((0 : Int), ByteArray.empty), (0 : Int), (0 : Int))) = some (bs (lineL (l.getD i dz))) := line_ref hn hp
  have hll := line_len hp
  have e1 : bs (lineL (l.getD i dz)) ++ s25x0 = bs (lineL (l.getD i dz) ++ [10]) := bs_append _ [10]
  rw [f25_18_eq, hn', bs_size, hg, decide_eq_true (show 0 ≤ ((i : Nat) : Int) ∧ ((i : Nat) : Int) < ((l.length : Nat) : Int) by omega), cond_true, cond_true, decide_eq_false (by omega), cond_false]
  simp only [Option.bind_some]
  rw [bs_size, smallN (by omega), cond_false, e1, bs_size, bs_size, smallN (by simp only [List.length_append, List.length_cons, List.length_nil]; omega), cond_false, bs_append, castN (by omega), cond_true]
/-- One thing more is told, or there is an end of line in its name, by both. -/
theorem drop_at {l : List Do} {i : Nat} (h : i < l.length) : l.drop i = l.getD i dz :: l.drop (i + 1) := getD_drop h
theorem text_loop {n : Nat} (hn : 1000 ≤ n) (l : List Do) (hl : l.length ≤ 256) (hm : ∀ d ∈ l, MayD d ∧ U16 d) : ∀ (k i M M' : Nat) (t : Bytes) (u : Bool) (jk : List Unit), i + k = l.length → k + 1 ≤ M → 70 * k + 1 ≤ M' → t.length ≤ 201 * i →
    ∃ out, (match u with | false => f24L_12 n M l ((l.length : Nat) : Int) ((i : Nat) : Int) jk (bytesL (bs t)) | true => f24L_1000012 n M l ((l.length : Nat) : Int) ((i : Nat) : Int) jk (bytesL (bs t))) = some out ∧ f25_12 n M' l (bs t) ((i : Nat) : Int) = some out ∧
      (out.2.2 = 0 → out = (bs (t ++ textL (l.drop i)), 0, 0) ∧ ∀ d ∈ l.drop i, (10 : UInt8) ∉ d.2.1.2.data.toList) ∧ (out.2.2 ≠ 0 → out.1 = ByteArray.empty) := by
  intro k
  induction k with
  | zero =>
    intro i M M' t u jk hi hM hM' ht
    obtain ⟨M, rfl⟩ : ∃ p, M = p + 1 := ⟨M - 1, by omega⟩
    obtain ⟨M', rfl⟩ : ∃ p, M' = p + 1 := ⟨M' - 1, by omega⟩
    refine ⟨(bs t, 0, 0), ?_, ?_, fun _ => ⟨?_, ?_⟩, fun h => (h rfl).elim⟩
    · cases u with
      | false =>
        simp only
        rw [f24L_12_eq, decide_eq_false (by omega), cond_false, show f43z n jk (bytesL (bs t)) = some (bs t, (((), ((), [])), ())) by unfold f43z; rw [text_bs]; rfl]
        rfl
      | true =>
        simp only
        rw [f24L_1000012_eq, decide_eq_false (by omega), cond_false, show f43u n jk (bytesL (bs t)) = some (bs t, (((), ((), [])), ())) by unfold f43u; rw [text_bs]; rfl]
        rfl
    · rw [f25_12_eq, decide_eq_false (by omega)]; rfl
    · rw [List.drop_of_length_le (by omega)]; simp [textL]
    · rw [List.drop_of_length_le (by omega)]; simp
  | succ k ih =>
    intro i M M' t u jk hi hM hM' ht
    obtain ⟨M, rfl⟩ : ∃ p, M = p + 1 := ⟨M - 1, by omega⟩
    have hil : i < l.length := by omega
    have hmem : l.getD i dz ∈ l := by simp [hil]
    obtain ⟨hmay, hu⟩ := hm _ hmem
    have hp := parts_of hmay hu
    have hll := line_len hp
    obtain ⟨nm, hnm⟩ := bs_of (l.getD i dz).2.1.2
    have hn64 : nm.length ≤ 64 := by
      have hk := hmay.k
      unfold KeyOk at hk
      split at hk
      · rw [hnm, bs_size] at hk; omega
      · rw [hk] at hnm
        have := congrArg ByteArray.size hnm
        rw [bs_size] at this
        have : (0 : Nat) = nm.length := this
        omega
    obtain ⟨q, hq, hq2⟩ := has_end n nm
    have hgo40 : f40 n (l.getD ((i : Nat) : Int).toNat ((0 : Int), ((0 : Int), ByteArray.empty), (0 : Int), (0 : Int))).2.1.2 s24Lx0 = some q := by
      have : (l.getD ((i : Nat) : Int).toNat ((0 : Int), ((0 : Int), ByteArray.empty), (0 : Int), (0 : Int))).2.1.2 = bs nm := hnm
      rw [this]
      exact hq
    have hgo42 : f42L n (l.getD ((i : Nat) : Int).toNat ((0 : Int), ((0 : Int), ByteArray.empty), (0 : Int), (0 : Int))) = some (bs (lineL (l.getD i dz))) := line_go n hp
    rcases split_byte 10 nm with h10 | ⟨a, b, e, h10⟩
    · -- no end of line in the name
      have hqf : q = false := by
        cases q with
        | false => rfl
        | true => exact (h10 (hq2.1 rfl)).elim
      subst hqf
      have e1 : bs (lineL (l.getD i dz)) ++ s24Lx0 = bs (lineL (l.getD i dz) ++ [10]) := bs_append _ [10]
      have hw : writeF (bytesL (bs t)) (bs (lineL (l.getD i dz) ++ [10])) = some (bytesL (bs (t ++ (lineL (l.getD i dz) ++ [10])))) := write_bs t _ (by simp only [List.length_append, List.length_cons, List.length_nil]; omega)
      obtain ⟨M', rfl⟩ : ∃ p, M' = p + 1 + nm.length + 1 := ⟨M' - nm.length - 2, by omega⟩
      obtain ⟨out, g1, g2, g3, g6⟩ := ih (i + 1) M M' (t ++ (lineL (l.getD i dz) ++ [10])) true [] (by omega) (by omega) (by omega) (by simp only [List.length_append, List.length_cons, List.length_nil]; omega)
      simp only at g1
      refine ⟨out, ?_, ?_, fun h0 => ?_, g6⟩
      · cases u with
        | false =>
          simp only
          rw [f24L_12_eq, decide_eq_true (by omega), decide_eq_true (by omega), hgo40]
          simp only [cond_true, Option.bind_some, cond_false]
          rw [hgo42]
          simp only [Option.bind_some]
          rw [bs_size, smallN (by omega), cond_false, e1, show f41z n (bs (lineL (l.getD i dz) ++ [10])) jk (bytesL (bs t)) = some ((), (((), ((), [])), (bytesL (bs (t ++ (lineL (l.getD i dz) ++ [10]))), ()))) by unfold f41z; rw [hw]; rfl]
          simp only [Option.bind_some]
          rw [castN (by omega)]
          exact g1
        | true =>
          simp only
          rw [f24L_1000012_eq, decide_eq_true (by omega), decide_eq_true (by omega), hgo40]
          simp only [cond_true, Option.bind_some, cond_false]
          rw [hgo42]
          simp only [Option.bind_some]
          rw [bs_size, smallN (by omega), cond_false, e1, show f41u n (bs (lineL (l.getD i dz) ++ [10])) jk (bytesL (bs t)) = some ((), (((), ((), [])), (bytesL (bs (t ++ (lineL (l.getD i dz) ++ [10]))), ()))) by unfold f41u; rw [hw]; rfl]
          simp only [Option.bind_some]
          rw [castN (by omega)]
          exact g1
      · rw [f25_12_eq, decide_eq_true (by omega), cond_true]
        have s1 := scan_name n l (bs t) i hil hl nm [] (by rw [List.append_nil]; exact hnm) h10 (by simp; omega) nm.length 0 (M' + 1) (by omega)
        rw [show f25_18 n (M' + 1 + nm.length) l (bs t) ((i : Nat) : Int) 0 = _ from s1, name_done (by omega) M' l t (by omega) i hil hl hp nm hnm]
        exact g2
      · obtain ⟨g4, g5⟩ := g3 h0
        rw [drop_at hil]
        refine ⟨?_, ?_⟩
        · rw [g4]
          show (bs (t ++ (lineL (l.getD i dz) ++ [10]) ++ textL (l.drop (i + 1))), (0 : Int), (0 : Int)) = (bs (t ++ ((lineL (l.getD i dz) ++ [10]) ++ textL (l.drop (i + 1)))), (0 : Int), (0 : Int))
          rw [List.append_assoc]
        · intro d hd
          rcases List.mem_cons.1 hd with e | hd
          · rw [e, hnm]; exact h10
          · exact g5 d hd
    · -- an end of line in the name
      have hqt : q = true := hq2.2 (by rw [e]; simp)
      subst hqt
      have hlen : nm.length = a.length + b.length + 1 := by rw [e]; simp; omega
      obtain ⟨M', rfl⟩ : ∃ p, M' = p + 1 + a.length + 1 := ⟨M' - a.length - 2, by omega⟩
      refine ⟨(ByteArray.empty, ((i : Nat) : Int), 212), ?_, ?_, fun h0 => absurd (show (212 : Int) = 0 from h0) (by decide), fun _ => rfl⟩
      · cases u with
        | false =>
          simp only
          rw [f24L_12_eq, decide_eq_true (by omega), decide_eq_true (by omega), hgo40]
          rfl
        | true =>
          simp only
          rw [f24L_1000012_eq, decide_eq_true (by omega), decide_eq_true (by omega), hgo40]
          rfl
      · rw [f25_12_eq, decide_eq_true (by omega), cond_true]
        have s1 := scan_name n l (bs t) i hil hl a (10 :: b) (by rw [hnm, e]) h10 (by rw [← e]; omega) a.length 0 (M' + 1) (by omega)
        rw [show f25_18 n (M' + 1 + a.length) l (bs t) ((i : Nat) : Int) 0 = _ from s1]
        exact name_end n M' l (bs t) i hil a b (by rw [hnm, e])
/-- The text of a program is told alike. -/
theorem told_alike {n : Nat} (l : List Do) (hl : l.length ≤ 2932031007317) (hn : l.length + 100000 ≤ n) (hu : ∀ d ∈ l, U16 d) :
    ∃ out, f24L n l = some out ∧ f25 n l = some out ∧ (out.2.2 = 0 → out = (bs (textL l), 0, 0) ∧ l.length ≤ 256 ∧ ∀ d ∈ l, Fine d) ∧ (out.2.2 ≠ 0 → out.1 = ByteArray.empty) := by
  obtain ⟨r, h1, h2, h3⟩ := checks_same n l (by omega) hl
  rw [f24L_eq, f25_eq, h1, h2]
  simp only [Option.bind_some]
  by_cases h0 : r.2 = 0
  · obtain ⟨_, h256⟩ := h3 h0
    have hmay : ∀ d ∈ l, MayD d := may_list (n := n) (by omega) hl (a := r.1) (by rw [h2, ← h0])
    rw [h0]
    simp only [bne_self_eq_false, cond_false]
    obtain ⟨out, g1, g2, g3, g6⟩ := text_loop (n := n) (by omega) l h256 (fun d hd => ⟨hmay d hd, hu d hd⟩) l.length 0 n n [] false [] (by omega) (by omega) (by omega) (by simp)
    refine ⟨out, g1, g2, fun h => ?_, g6⟩
    obtain ⟨g4, g5⟩ := g3 h
    exact ⟨g4, h256, fun d hd => ⟨hmay d hd, hu d hd, g5 d (by simpa using hd)⟩⟩
  · rw [show (r.2 != 0) = true by simpa using h0]
    exact ⟨_, rfl, rfl, fun h => (h0 h).elim, fun _ => rfl⟩
/-! ### the law -/
theorem str_self (b : ByteArray) : (b == b) = true := (eqB b b).trans (decide_eq_true rfl)
theorem same_self (n : Nat) (a : List Do) (ha : a.length ≤ 2932031007317) : ∀ (k i M : Nat), i + k = a.length → k + 1 ≤ M → f28_8 n M a a ((i : Nat) : Int) = some true := by
  intro k
  induction k with
  | zero =>
    intro i M hi hM
    obtain ⟨M, rfl⟩ : ∃ p, M = p + 1 := ⟨M - 1, by omega⟩
    rw [f28_8_eq, decide_eq_false (by omega)]
    rfl
  | succ k ih =>
    intro i M hi hM
    obtain ⟨M, rfl⟩ : ∃ p, M = p + 1 := ⟨M - 1, by omega⟩
    rw [f28_8_eq, decide_eq_true (by omega), decide_eq_true (by omega), castN (by omega)]
    simp only [cond_true, beq_self_eq_true, str_self, Bool.and_self, Bool.not_true, cond_false]
    exact ih (i + 1) M (by omega) (by omega)
theorem same_list {n : Nat} (a : List Do) (ha : a.length ≤ 2932031007317) (hn : a.length + 1 ≤ n) : f28 n a a = some true := by
  rw [f28_eq]
  simp only [bne_self_eq_false, cond_false]
  exact same_self n a ha a.length 0 n (by omega) (by omega)
theorem texts_true {n : Nat} (l : List Do) (s : Bytes) (hl : l.length ≤ 2932031007317) (hs : s.length ≤ 1048576) (hn : l.length + 8388608 ≤ n) (hu : ∀ d ∈ l, U16 d) : f6 n l (bs s) = some true := by
  obtain ⟨r, h1, h2, h3⟩ := checks_same n l (by omega) hl
  obtain ⟨out, t1, t2, t3, t4⟩ := told_alike (n := n) l hl (by omega) hu
  obtain ⟨p, p1, p2, p3⟩ := texts_alike (n := n) (by omega) hs
  have hr := ref_self n l hl (by omega)
  have hrp := ref_self n p.1 (by omega) (by omega)
  rw [f6_eq, h1, hr]
  simp only [Option.bind_some]
  rw [h2, t1]
  simp only [Option.bind_some]
  rw [t2, p1, p2, f8_true n (by omega)]
  simp only [Option.bind_some, Bool.not_true, cond_false, bne_self_eq_false, beq_self_eq_true]
  rw [hrp]
  simp only [Option.bind_some]
  rw [same_list p.1 (by omega) (by omega)]
  simp only [Option.bind_some, Bool.not_true, cond_false]
  by_cases h0 : out.2.2 = 0
  · obtain ⟨e, h256, hf⟩ := t3 h0
    rw [e, read_back (by omega) hf h256]
    simp only [Option.bind_some, bne_self_eq_false, cond_false, beq_self_eq_true, cond_true]
    rw [hr]
    simp only [Option.bind_some]
    rw [same_list l hl (by omega)]
    rfl
  · obtain ⟨q, hq, _⟩ := texts_alike (n := n) (l := []) (by omega) (by simp)
    have hq : f26 n out.1 = some q := by rw [t4 h0]; exact hq
    rw [hq]
    simp only [Option.bind_some]
    rw [show (out.2.2 != 0) = true by simpa using h0]
    rfl
end Go.Proofs.YthpcpofcadpijaaDoor
