/- strings.Builder: WriteString and String, as functions that are handed a builder: a marked box with its own address (or none yet) and a row of bytes. -/
import Derived.Test.YthpcpofcadpijaaDoorRfU
namespace Go.Rf
open Go.RowKit (Below)
/-- A builder: used (it holds its own address), or not yet. -/
def bSh (T : TypeId) : Bool → Sh
  | true => .agg (.pair (.ptr 1 []) (.pair (.rs 100001) (.val (.arr 0 (.fn T)))))
  | false => .agg (.pair .nilp (.pair (.rs 100001) (.val (.arr 0 (.fn T)))))
def bMem (T E : TypeId) (u : Bool) : List (Nat × OSh) := [(1, .box (bSh T u)), (100001, .row E (.int .u8))]
def bBox (T : TypeId) : (bSh T true).den := ((), ((), ([] : List Unit)))
/-- It writes a text behind. -/
def writeF (l : List Int) (s : ByteArray) : Option (List Int) := if l.length + s.size ≤ 140737488355328 then some (l ++ bytesL s) else none
def writeE (f : FuncId) (T E : TypeId) (u : Bool) : OE :=
  ⟨f, ⟨2, 1, [(0, .ptr 1 []), (1, .val .str)], bMem T E u⟩, [⟨2, 1, [], bMem T E true⟩], fun x y => (writeF y.2.1 x.2).map fun l => ((), (bBox T, (l, ()))), []⟩
/-- A builder behind String: nothing is known of its row. -/
def dSh (T : TypeId) : Bool → Sh
  | true => .agg (.pair (.ptr 1 []) (.pair .dead (.val (.arr 0 (.fn T)))))
  | false => .agg (.pair .nilp (.pair .dead (.val (.arr 0 (.fn T)))))
def dMem (T : TypeId) (u : Bool) : List (Nat × OSh) := [(1, .box (dSh T u))]
def dBox (T : TypeId) : (u : Bool) → (dSh T u).den
  | true => ((), ((), ([] : List Unit)))
  | false => ((), ((), ([] : List Unit)))
/-- The text that it holds. -/
def textF (l : List Int) : Option ByteArray := if bytesL (mkBytes l) = l then some (mkBytes l) else none
def stringE (f : FuncId) (T E : TypeId) (u : Bool) : OE :=
  ⟨f, ⟨1, 0, [(0, .ptr 1 [])], bMem T E u⟩, [⟨1, 0, [(0, .val .str)], dMem T u⟩], fun _ y => (textF y.2.1).map fun s => (s, (dBox T u, ())), []⟩
section
variable {P : Program} {W0 : World} {f : FuncId} {fn : Func} {T E : TypeId}
theorem two_get {o1 o2 o : Obj} {d : Nat} (h : getM [(1, o1), (100001, o2)] d = some o) : (d = 1 ∧ o = o1) ∨ (d = 100001 ∧ o = o2) := by
  simp only [getM] at h
  split at h
  · rename_i e; cases h; exact .inl ⟨e.symm, rfl⟩
  · split at h
    · rename_i e; cases h; exact .inr ⟨e.symm, rfl⟩
    · cases h
def enc8 : Int → Value := Value.int .u8
theorem row8_eq {w : World} {own : Nat → Prop} : ∀ {l : List Int} {cs : List Value}, Row (DR w own (.int .u8)) l cs → cs = l.map enc8
  | [], _, h => h
  | x :: l, _, ⟨a, b, e, h1, h2⟩ => by
    have h1 : a = [enc8 x] := h1
    rw [e, h1, row8_eq h2]
    rfl
theorem row8 (w : World) (own : Nat → Prop) : ∀ l : List Int, Row (DR w own (.int .u8)) l (l.map enc8)
  | [] => rfl
  | x :: l => ⟨[enc8 x], l.map enc8, rfl, rfl, row8 w own l⟩
/-- What is handed in. -/
theorem b_in {cx : Cx} {n dp : Nat} {sl : List (Nat × Sh)} {u : Bool} {x : slotsDen sl} {y : memDen (bMem T E u)} {a : Act} {w : World} {ρ : Nat → Value} (h : Sim cx (encSt ⟨n, dp, sl, bMem T E u⟩ x y) a w ρ) :
    ∃ (b : Nat) (p : Value), ρ 1 = .pointer (some ⟨b, 0, none⟩) ∧ (p = match u with | true => .pointer (some ⟨b, 0, none⟩) | false => .pointer none) ∧ w.heap[b]? = some (.cells #[p, ρ 100001] T (0, 0)) ∧
      w.ownsRow 0 E 1 (ρ 100001) y.2.1.length (y.2.1.map enc8) ∧ hb (ρ 100001) ≠ some b := by
  obtain ⟨bx, l, un⟩ := y
  have g1 : getM (encMem (bMem T E u) (bx, (l, un))) 1 = some (.box ((bSh T u).enc bx)) := by simp [encMem, bMem, getM]
  have g2 : getM (encMem (bMem T E u) (bx, (l, un))) 100001 = some (.row E (.int .u8) l) := by simp [encMem, bMem, getM]
  obtain ⟨_, css, k1, k2⟩ := h.ob 100001 _ g2
  rw [row8_eq k2] at k1
  obtain ⟨b, cs, T', e1, e2, e3, e4⟩ := h.ob 1 _ g1
  refine ⟨b, ?_⟩
  have hne : hb (ρ 100001) ≠ some b := fun hh => by
    have := h.ds 1 100001 _ _ b g1 g2 (by rw [e1]; rfl) hh
    cases this
  have eT : T' = T := e4 T (by cases u <;> rfl)
  subst eT
  cases u with
  | true =>
    obtain ⟨u1, u2, u3⟩ := bx
    simp only [bSh, Sh.enc, FR] at e3
    obtain ⟨c1, c2, ec, h1, c3, c4, ec2, ⟨h2, _⟩, h3⟩ := e3
    obtain ⟨b', off, v, j1, j2, j3, j4⟩ := h1
    have h4 : c4 = [] := by simpa [Rf.enc, V.size] using h3.len
    rw [e1] at j1
    cases j1
    simp only [List.map_nil, PathAt] at j3
    subst j3
    subst ec; subst ec2; subst h2; subst j4; subst h4
    exact ⟨_, e1, rfl, by simpa using e2, k1, hne⟩
  | false =>
    obtain ⟨u1, u2, u3⟩ := bx
    simp only [bSh, Sh.enc, FR] at e3
    obtain ⟨c1, c2, ec, h1, c3, c4, ec2, ⟨h2, _⟩, h3⟩ := e3
    have h4 : c4 = [] := by simpa [Rf.enc, V.size] using h3.len
    subst ec; subst ec2; subst h2; subst h1; subst h4
    exact ⟨_, e1, rfl, by simpa using e2, k1, hne⟩
theorem vr_ptr1 {w : World} {own : Nat → Prop} {ρ : Nat → Value} {m : Mem} {x : Value} {b : Nat} (h : VR w own ρ m (.ptr 1 []) x) (hb' : ρ 1 = .pointer (some ⟨b, 0, none⟩)) : x = .pointer (some ⟨b, 0, none⟩) := by
  obtain ⟨b', off, v, j1, j2, j3, j4⟩ : FR w own ρ m (.ptr 1 []) [x] := h
  rw [hb'] at j1
  cases j1
  simp only [PathAt] at j3
  subst j3
  injection j4
theorem b_arg {cx : Cx} {l : List (Nat × OSh)} {z : slotsDen [(0, Sh.ptr 1 []), (1, Sh.val .str)]} {y : memDen l} {xs : List Value} {w : World} {ρ : Nat → Value} (hxl : xs.length ≤ 2)
    (h : Sim cx (encSt ⟨2, 1, [(0, .ptr 1 []), (1, .val .str)], l⟩ z y) (actOf 2 xs) w ρ) {b : Nat} (hb' : ρ 1 = .pointer (some ⟨b, 0, none⟩)) : xs = [.pointer (some ⟨b, 0, none⟩), .string z.2] := by
  have h0 := h.fr 0
  have h1 := h.fr 1
  have e0 : (encSt ⟨2, 1, [(0, .ptr 1 []), (1, .val .str)], l⟩ z y).fr.get 0 = .ptr 1 [] := rfl
  have e1 : (encSt ⟨2, 1, [(0, .ptr 1 []), (1, .val .str)], l⟩ z y).fr.get 1 = .str z.2 := rfl
  rw [e0] at h0
  rw [e1] at h1
  have j4 := vr_ptr1 h0 hb'
  have h1 : [(actOf 2 xs).tmps.getD 1 undef] = [Value.string z.2] := h1
  injection h1 with h1
  match xs, hxl with
  | [], _ => simp [actOf, undef] at j4
  | [a], _ => simp [actOf, undef] at h1
  | [a, c], _ =>
    simp [actOf] at j4 h1
    rw [j4, h1]
theorem b_arg1 {cx : Cx} {l : List (Nat × OSh)} {z : slotsDen [(0, Sh.ptr 1 [])]} {y : memDen l} {xs : List Value} {w : World} {ρ : Nat → Value} (hxl : xs.length ≤ 1)
    (h : Sim cx (encSt ⟨1, 0, [(0, .ptr 1 [])], l⟩ z y) (actOf 1 xs) w ρ) {b : Nat} (hb' : ρ 1 = .pointer (some ⟨b, 0, none⟩)) : xs = [.pointer (some ⟨b, 0, none⟩)] := by
  have h0 := h.fr 0
  have e0 : (encSt ⟨1, 0, [(0, .ptr 1 [])], l⟩ z y).fr.get 0 = .ptr 1 [] := rfl
  rw [e0] at h0
  have j4 := vr_ptr1 h0 hb'
  match xs, hxl with
  | [], _ => simp [actOf, undef] at j4
  | [a], _ =>
    simp [actOf] at j4
    rw [j4]
/-- By an exact contract. -/
theorem write_ok (u : Bool) (hf : P.funcs[f]? = some fn) (hname : (fn.name == "runtime.NumGoroutine") = false) (hbody : fn.body.isSome = true)
    (hws : ∀ (b : Nat) (p v : Value) (l : List Value) (s : ByteArray) (w : World), w.heap[b]? = some (.cells #[p, v] T (0, 0)) → (p = .pointer none ∨ p = .pointer (some ⟨b, 0, none⟩)) → w.ownsRow 0 E 1 v l.length l → hb v ≠ some b →
      l.length + s.size ≤ 140737488355328 → Calls P f #[.pointer (some ⟨b, 0, none⟩), .string s] w fun e w' => e = .returned (.tuple #[.int .i64 s.size, .nilIface]) ∧ ∃ v', w'.ownsRow 0 E 1 v' (l.length + s.size) (l ++ Lib.strCells s) ∧
        w'.heap[b]? = some (.cells #[.pointer (some ⟨b, 0, none⟩), v'] T (0, 0)) ∧ Bel (fun k => k = b ∨ hb v = some k) w w' ∧ ∀ k, hb v' = some k → hb v = some k ∨ (w.heap.size ≤ k ∧ k < w'.heap.size)) : OOK P W0 (writeE f T E u) := by
  refine ⟨by cases u <;> rfl, ?_⟩
  intro cx w x y z xs ρ hz _ _ hkp hxl hsim
  obtain ⟨b, p, hρ, hp, hbk, hown, hne⟩ := b_in hsim
  have hxs := b_arg hxl hsim hρ
  obtain ⟨l', hl, rfl⟩ := Option.map_eq_some_iff.1 (show (writeF y.2.1 x.2).map _ = some z from hz)
  unfold writeF at hl
  split at hl
  · rename_i hlen
    cases hl
    subst hxs
    refine Does.of_calls hf hname hbody ((hws b p (ρ 100001) (y.2.1.map enc8) x.2 w hbk (by rw [hp]; cases u; exact .inl rfl; exact .inr rfl) (by simpa using hown) hne (by simpa using hlen)).mono ?_)
    rintro e w' ⟨he, v', hown', hbk', hbel, hnew⟩
    subst he
    obtain ⟨bx, l, un⟩ := y
    have g1 : getM (encMem (bMem T E u) (bx, (l, un))) 1 = some (.box ((bSh T u).enc bx)) := by simp [encMem, bMem, getM]
    have g2 : getM (encMem (bMem T E u) (bx, (l, un))) 100001 = some (.row E (.int .u8) l) := by simp [encMem, bMem, getM]
    have hb1 : hb (ρ 1) = some b := by rw [hρ]; rfl
    have ok1 := hsim.ge 1 _ b g1 hb1
    have hup : updH ρ 100001 v' 1 = ρ 1 := upd_ne (by decide)
    have hmem : (encSt (⟨2, 1, [], bMem T E true⟩ : Shape) () (bBox T, (l ++ bytesL x.2, ()))).mem = [(1, .box (.agg (.pair (.ptr 1 []) (.pair (.rs 100001) (.arr 0 (.fn T) []))))), (100001, .row E (.int .u8) (l ++ bytesL x.2))] := rfl
    have hw0 := hsim.be.size
    refine ⟨_, rfl, [.int .i64 x.2.size, .nilIface], updH ρ 100001 v', rfl, rfl, ⟨rfl, rfl, hsim.be.trans (hbel.mono fun k _ hk => ?_), fun k hk => Nat.lt_of_lt_of_le (hsim.fo k hk) hbel.size, ?_, ?_, ?_, ?_, ?_, hsim.pl, ?_⟩, fun d u' hd => ?_⟩
    · rcases hk with rfl | hk
      · exact ok1.1
      · exact (hsim.ge 100001 _ k g2 hk).1
    · intro d o k hd hk
      rw [hmem] at hd
      rcases two_get hd with ⟨rfl, _⟩ | ⟨rfl, _⟩
      · rw [hup, hb1] at hk
        cases hk
        exact ⟨ok1.1, Nat.lt_of_lt_of_le ok1.2 hbel.size⟩
      · rw [upd_same] at hk
        rcases hnew k hk with h1 | ⟨h1, h2⟩
        · have := hsim.ge 100001 _ k g2 h1
          exact ⟨this.1, Nat.lt_of_lt_of_le this.2 hbel.size⟩
        · exact ⟨.inl (Nat.le_trans hw0 h1), h2⟩
    · intro d o k hd hk ho
      rw [hmem] at hd
      rcases two_get hd with ⟨rfl, _⟩ | ⟨rfl, _⟩
      · rw [hup] at hk
        exact hsim.no 1 _ k g1 hk ho
      · rw [upd_same] at hk
        rcases hnew k hk with h1 | ⟨h1, h2⟩
        · exact hsim.no 100001 _ k g2 h1 ho
        · have := hsim.fo k ho; omega
    · have apart : ∀ k, hb (updH ρ 100001 v' 1) = some k → hb (updH ρ 100001 v' 100001) = some k → False := by
        intro k h1 h2
        rw [hup, hb1] at h1
        cases h1
        rw [upd_same] at h2
        rcases hnew b h2 with h3 | ⟨h3, _⟩
        · exact hne h3
        · have := ok1.2; omega
      intro d d' o o' k hd hd' h1 h2
      rw [hmem] at hd hd'
      rcases two_get hd with ⟨rfl, _⟩ | ⟨rfl, _⟩ <;> rcases two_get hd' with ⟨rfl, _⟩ | ⟨rfl, _⟩
      · rfl
      · exact (apart k h1 h2).elim
      · exact (apart k h2 h1).elim
      · rfl
    · intro d o hd
      have hd0 := hd
      rw [hmem] at hd
      rcases two_get hd with ⟨rfl, rfl⟩ | ⟨rfl, rfl⟩
      · refine ⟨b, [.pointer (some ⟨b, 0, none⟩), v'], T, by rw [hup]; exact hρ, hbk', ?_, fun U hU => by cases hU; rfl⟩
        refine ⟨[.pointer (some ⟨b, 0, none⟩)], [v'], rfl, ⟨b, 0, _, by rw [hup]; exact hρ, hd0, rfl, rfl⟩, [v'], [], rfl, ⟨by rw [upd_same], E, .int .u8, l ++ bytesL x.2, by rw [hmem]; simp [getM]⟩, ⟨rfl, rfl⟩⟩
      · refine ⟨by decide, (l ++ bytesL x.2).map enc8, ?_, row8 _ _ _⟩
        rw [upd_same, List.length_append, bytesL_len, List.map_append]
        have : (bytesL x.2).map enc8 = Lib.strCells x.2 := by simp [bytesL, Lib.strCells, enc8]
        rw [this]
        rw [List.length_map] at hown'
        exact hown'
    · intro t
      have : (encSt (⟨2, 1, [], bMem T E true⟩ : Shape) () (bBox T, (l ++ bytesL x.2, ()))).fr.get t = .any := Fr.get_mk _ _
      rw [this]
      trivial
    · intro d a o hd ho
      rw [hmem] at ho
      have hlt := hsim.pl d a hd
      rcases two_get ho with ⟨rfl, _⟩ | ⟨rfl, _⟩
      · rw [hup]; exact hsim.pn 1 a _ hd g1
      · omega
    · obtain ⟨h3, _⟩ := hkp d u' hd
      cases h3
  · cases hl
theorem string_ok (u : Bool) (hf : P.funcs[f]? = some fn) (hname : (fn.name == "runtime.NumGoroutine") = false) (hbody : fn.body.isSome = true)
    (hst : ∀ (b : Nat) (p v : Value) (s : ByteArray) (w : World), w.heap[b]? = some (.cells #[p, v] T (0, 0)) → w.ownsRow 0 E 1 v s.size (Lib.strCells s) → hb v ≠ some b →
      Calls P f #[.pointer (some ⟨b, 0, none⟩)] w fun e w' => e = .returned (.string s) ∧ Bel (fun k => hb v = some k) w w') : OOK P W0 (stringE f T E u) := by
  refine ⟨by cases u <;> rfl, ?_⟩
  intro cx w x y z xs ρ hz _ _ hkp hxl hsim
  obtain ⟨b, p, hρ, hp, hbk, hown, hne⟩ := b_in hsim
  have hxs := b_arg1 hxl hsim hρ
  obtain ⟨s, hs, rfl⟩ := Option.map_eq_some_iff.1 (show (textF y.2.1).map _ = some z from hz)
  unfold textF at hs
  split at hs
  · rename_i hl
    cases hs
    subst hxs
    obtain ⟨bx, l, un⟩ := y
    simp only at hl hown
    have e1 : l.map enc8 = Lib.strCells (mkBytes l) := by
      conv => lhs; rw [← hl]
      simp [bytesL, Lib.strCells, enc8]
    have e2 : l.length = (mkBytes l).size := by
      conv => lhs; rw [← hl]
      rw [bytesL_len]
    rw [e1, e2] at hown
    have g2 : getM (encMem (bMem T E u) (bx, (l, un))) 100001 = some (.row E (.int .u8) l) := by simp [encMem, bMem, getM]
    refine Does.of_calls hf hname hbody ((hst b p (ρ 100001) (mkBytes l) w hbk hown hne).mono ?_)
    rintro e w' ⟨he, hbel⟩
    subst he
    have g1 : getM (encMem (bMem T E u) (bx, (l, un))) 1 = some (.box ((bSh T u).enc bx)) := by simp [encMem, bMem, getM]
    have hb1 : hb (ρ 1) = some b := by rw [hρ]; rfl
    have ok1 := hsim.ge 1 _ b g1 hb1
    have hmem : (encSt (⟨1, 0, [(0, .val .str)], dMem T u⟩ : Shape) (mkBytes l) (dBox T u, ())).mem = [(1, .box ((dSh T u).enc (dBox T u)))] := rfl
    have one_ : ∀ d o, getM (encSt (⟨1, 0, [(0, .val .str)], dMem T u⟩ : Shape) (mkBytes l) (dBox T u, ())).mem d = some o → d = 1 ∧ o = .box ((dSh T u).enc (dBox T u)) := by
      intro d o h
      rw [hmem] at h
      simp only [getM] at h
      split at h
      · rename_i e; cases h; exact ⟨e.symm, rfl⟩
      · cases h
    have hbk' : w'.heap[b]? = some (.cells #[p, ρ 100001] T (0, 0)) := by rw [hbel.block b ok1.2 hne]; exact hbk
    have hone : (ρ 100001).oneCell' = true := by
      rcases hown.2 with ⟨e, _⟩ | ⟨g, cap, cur, e, _⟩ <;> rw [e] <;> rfl
    refine ⟨_, rfl, [.string (mkBytes l)], ρ, rfl, rfl, ⟨rfl, rfl, hsim.be.trans (hbel.mono fun k _ hk => (hsim.ge 100001 _ k g2 hk).1), fun k hk => Nat.lt_of_lt_of_le (hsim.fo k hk) hbel.size, ?_, ?_, ?_, ?_, ?_, hsim.pl, ?_⟩, fun d u' hd => ?_⟩
    · intro d o k hd hk
      obtain ⟨rfl, _⟩ := one_ d o hd
      have := hsim.ge 1 _ k g1 hk
      exact ⟨this.1, Nat.lt_of_lt_of_le this.2 hbel.size⟩
    · intro d o k hd hk
      obtain ⟨rfl, _⟩ := one_ d o hd
      exact hsim.no 1 _ k g1 hk
    · intro d d' o o' k hd hd' _ _
      rw [(one_ d o hd).1, (one_ d' o' hd').1]
    · intro d o hd
      have hd0 := hd
      obtain ⟨rfl, rfl⟩ := one_ d o hd
      refine ⟨b, [p, ρ 100001], T, hρ, hbk', ?_, fun U hU => by cases u <;> (cases hU; rfl)⟩
      cases u with
      | true =>
        subst hp
        exact ⟨[.pointer (some ⟨b, 0, none⟩)], [ρ 100001], rfl, ⟨b, 0, _, hρ, hd0, rfl, rfl⟩, [ρ 100001], [], rfl, ⟨_, rfl, hone⟩, ⟨rfl, rfl⟩⟩
      | false =>
        subst hp
        exact ⟨[.pointer none], [ρ 100001], rfl, rfl, [ρ 100001], [], rfl, ⟨_, rfl, hone⟩, ⟨rfl, rfl⟩⟩
    · intro t
      match t with
      | 0 => exact rfl
      | t + 1 => trivial
    · intro d a o hd ho
      obtain ⟨rfl, _⟩ := one_ d o ho
      exact hsim.pn 1 a _ hd g1
    · obtain ⟨h3, _⟩ := hkp d u' hd
      cases h3
  · cases hs
end
end Go.Rf
