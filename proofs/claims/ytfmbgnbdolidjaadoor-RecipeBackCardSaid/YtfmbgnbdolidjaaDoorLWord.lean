/- Words: a text cut at its spaces; the words of steps, and the place of the next one. -/
import Derived.Test.YtfmbgnbdolidjaaDoorLNum
namespace Go.Proofs.YtfmbgnbdolidjaaDoor
open Go.Rf Go.Lib
abbrev Ws := List Bytes
/-- The words behind one, each behind a space. -/
def tl : Ws → Bytes
  | [] => []
  | w :: r => 32 :: (w ++ tl r)
def jn : Ws → Bytes
  | [] => []
  | w :: r => w ++ tl r
def NoSp (ws : Ws) : Prop := ∀ w ∈ ws, (32 : UInt8) ∉ w
theorem tl_join : ∀ ws : Ws, joinTail [32] ws = tl ws
  | [] => rfl
  | w :: r => by
    show [32] ++ w ++ joinTail [32] r = _
    rw [tl_join r]
    simp [tl]
theorem jn_join : ∀ ws : Ws, Lib.join ws [32] = jn ws
  | [] => rfl
  | w :: r => by rw [join_cons, tl_join]; rfl
theorem tl_append : ∀ a b : Ws, tl (a ++ b) = tl a ++ tl b
  | [], _ => rfl
  | w :: a, b => by simp [tl, tl_append a b]
theorem tl_len : ∀ ws : Ws, ws.length ≤ (tl ws).length
  | [] => Nat.le_refl _
  | w :: r => by have := tl_len r; simp [tl]; omega
theorem words_of : ∀ (N : Nat) (s : Bytes), s.length ≤ N → ∃ ws : Ws, ws ≠ [] ∧ NoSp ws ∧ s = jn ws := by
  intro N
  induction N with
  | zero =>
    intro s hs
    have : s = [] := List.eq_nil_of_length_eq_zero (by omega)
    subst this
    exact ⟨[[]], by simp, fun w hw => by rw [List.mem_singleton] at hw; subst hw; simp, rfl⟩
  | succ N ih =>
    intro s hs
    rcases split_byte 32 s with h | ⟨a, b, rfl, ha⟩
    · exact ⟨[s], by simp, fun w hw => by rw [List.mem_singleton] at hw; subst hw; exact h, by simp [jn, tl]⟩
    · obtain ⟨ws, h1, h2, h3⟩ := ih b (by simp at hs; omega)
      cases ws with
      | nil => exact (h1 rfl).elim
      | cons w r =>
        refine ⟨a :: w :: r, by simp, fun x hx => ?_, by rw [h3]; rfl⟩
        rcases List.mem_cons.1 hx with rfl | hx
        · exact ha
        · exact h2 x hx
theorem idx_none {c : UInt8} : ∀ {l : Bytes}, c ∉ l → index l [c] = -1
  | [], _ => rfl
  | x :: l, h => by
    simp only [List.mem_cons, not_or] at h
    have hp : ([c] : List UInt8).isPrefixOf (x :: l) = false := by simp [List.isPrefixOf, h.1]
    rw [index, hp, idx_none h.2]
    rfl
theorem idx_some {c : UInt8} : ∀ {a b : Bytes}, c ∉ a → index (a ++ c :: b) [c] = (a.length : Int)
  | [], b, _ => by
    show index (c :: b) [c] = 0
    rw [index]
    simp [List.isPrefixOf]
  | x :: a, b, h => by
    simp only [List.mem_cons, not_or] at h
    have hp : ([c] : List UInt8).isPrefixOf (x :: (a ++ c :: b)) = false := by simp [List.isPrefixOf, h.1]
    show index (x :: (a ++ c :: b)) [c] = _
    rw [index, hp, idx_some h.2]
    simp
theorem split_jn : ∀ ws : Ws, ws ≠ [] → NoSp ws → splitB (bs [32]) 0 (countB (bs (jn ws)) (bs [32])) (bs (jn ws)) = ws.map bs := by
  intro ws
  induction ws with
  | nil => intro h; exact (h rfl).elim
  | cons w r ih =>
    intro _ hns
    have hw := hns w (by simp)
    cases r with
    | nil =>
      have e : jn [w] = w := by simp [jn, tl]
      have hi : indexB (bs w) (bs [32]) = -1 := idx_none hw
      rw [e, countB_miss _ _ hi]
      rfl
    | cons w' r =>
      have e : jn (w :: w' :: r) = w ++ 32 :: jn (w' :: r) := rfl
      have hi : indexB (bs (w ++ 32 :: jn (w' :: r))) (bs [32]) = (w.length : Int) := idx_some hw
      have ih := ih (by simp) (fun x hx => hns x (by simp at hx ⊢; exact .inr hx))
      have hx : (bs (w ++ 32 :: jn (w' :: r))).extract (w.length + (bs [32]).size) (bs (w ++ 32 :: jn (w' :: r))).size = bs (jn (w' :: r)) := by
        rw [bs_extract, bs_size, bs_size, List.take_of_length_le (by simp; omega)]
        congr 1
        simp
      have hx0 : (bs (w ++ 32 :: jn (w' :: r))).extract 0 (w.length + 0) = bs w := by
        rw [bs_extract]
        congr 1
        simp
      rw [e, countB_hit _ _ w.length (by rw [bs_size]; simp) hi, hx, Nat.add_comm 1, splitB_hit _ _ _ _ _ hi, hx, hx0, ih]
      rfl
theorem split_go (n : Nat) {ws : Ws} (h : ws ≠ []) (hns : NoSp ws) (hl : (jn ws).length ≤ 1048576) : f23L n (bs (jn ws)) s10x0 = some (ws.map bs) := by
  show splitF (bs (jn ws)) (bs [32]) = _
  unfold splitF
  rw [if_pos ⟨by rw [bs_size]; omega, by rw [bs_size]; simp⟩, split_jn ws h hns]
/-! ### the next word -/
theorem next_loop (n : Nat) (pre w rest : Bytes) (hw : (32 : UInt8) ∉ w) (hr : rest = [] ∨ ∃ r, rest = 32 :: r) (hl : (pre ++ w ++ rest).length ≤ 1048576) : ∀ (b a : Bytes) (M : Nat), w = a ++ b → b.length + 1 ≤ M →
    f25_4 n M (bs (pre ++ w ++ rest)) ((pre.length : Nat) : Int) ((pre.length + a.length : Nat) : Int) = some (bs w) := by
  intro b
  induction b with
  | nil =>
    intro a M e hM
    obtain ⟨M, rfl⟩ : ∃ q, M = q + 1 := ⟨M - 1, by omega⟩
    rw [List.append_nil] at e
    subst e
    have hlen : (pre ++ w ++ rest).length = pre.length + w.length + rest.length := by simp; omega
    have hx : (bs (pre ++ w ++ rest)).extract pre.length (pre.length + w.length) = bs w := by
      rw [bs_extract]
      congr 1
      simp
    have h3 : decide ((0 : Int) ≤ ((pre.length : Nat) : Int) ∧ ((pre.length : Nat) : Int) ≤ ((pre.length + w.length : Nat) : Int) ∧ ((pre.length + w.length : Nat) : Int) ≤ ((bs (pre ++ w ++ rest)).size : Int)) = true := decide_eq_true (by rw [bs_size, hlen]; omega)
    rw [f25_4_eq, h3]
    simp only [Int.toNat_natCast, hx, cond_true]
    rcases hr with rfl | ⟨r, rfl⟩
    · rw [decide_eq_false (by rw [bs_size, hlen]; simp)]
      rfl
    · have hb : byteAt (bs (pre ++ w ++ 32 :: r)) ((pre.length + w.length : Nat) : Int) = 32 := by
        have := byte_mid (l1 := pre ++ w) (l2 := r) (c := 32)
        rw [List.length_append] at this
        exact this
      rw [hb, decide_eq_true (by rw [bs_size, hlen]; simp; omega), decide_eq_true (by rw [bs_size, hlen]; simp; omega)]
      rfl
  | cons c b ih =>
    intro a M e hM
    obtain ⟨M, rfl⟩ : ∃ q, M = q + 1 := ⟨M - 1, by simp at hM; omega⟩
    have hwl : w.length = a.length + (b.length + 1) := by rw [e]; simp
    have hlen : (pre ++ w ++ rest).length = pre.length + w.length + rest.length := by simp; omega
    have hb : byteAt (bs (pre ++ w ++ rest)) ((pre.length + a.length : Nat) : Int) = ((c.toNat : Nat) : Int) := by
      have := byte_mid (l1 := pre ++ a) (l2 := b ++ rest) (c := c)
      rw [List.length_append] at this
      rw [e, ← this]
      simp
    have hc : c.toNat ≠ 32 := fun h => hw (by
      rw [e]
      have : c = 32 := UInt8.toNat_inj.1 h
      rw [this]
      simp)
    rw [f25_4_eq, decide_eq_true (show ((pre.length + a.length : Nat) : Int) < ((bs (pre ++ w ++ rest)).size : Int) by rw [bs_size]; omega),
      decide_eq_true (show (0 : Int) ≤ ((pre.length + a.length : Nat) : Int) ∧ ((pre.length + a.length : Nat) : Int) < ((bs (pre ++ w ++ rest)).size : Int) by rw [bs_size]; omega), hb,
      show (((c.toNat : Nat) : Int) != 32) = true from by simp; omega, castN (by omega)]
    simp only [cond_true]
    have := ih (a ++ [c]) M (by rw [e]; simp) (by simp at hM; omega)
    rw [List.length_append, List.length_singleton, ← Nat.add_assoc] at this
    exact this
theorem tl_head : ∀ ws : Ws, tl ws = [] ∨ ∃ r, tl ws = 32 :: r
  | [] => .inl rfl
  | _ :: _ => .inr ⟨_, rfl⟩
theorem next_at {n : Nat} {pre w : Bytes} {ws : Ws} (hw : (32 : UInt8) ∉ w) (hl : (pre ++ (w ++ tl ws)).length ≤ 1048576) (hn : 1048577 ≤ n) : f25 n (bs (pre ++ (w ++ tl ws))) ((pre.length : Nat) : Int) = some (bs w) := by
  rw [← List.append_assoc] at hl ⊢
  rw [f25_eq]
  exact next_loop n pre w (tl ws) hw (tl_head ws) hl w [] n rfl (by simp at hl; omega)
end Go.Proofs.YtfmbgnbdolidjaaDoor
