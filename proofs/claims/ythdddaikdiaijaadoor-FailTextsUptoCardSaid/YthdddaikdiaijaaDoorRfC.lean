/- What a symbolic value says of the machine's: relations, and how they are kept. -/
import Derived.Test.YthdddaikdiaijaaDoorRfB
import Derived.Laws.Rows
import Derived.Laws.AppendOwn
import Derived.Tactics
namespace Go.Rf
/-! ### lists in pieces -/
def Row {α : Type} (R : α → List Value → Prop) : List α → List Value → Prop
  | [], cs => cs = []
  | x :: xs, cs => ∃ a b, cs = a ++ b ∧ R x a ∧ Row R xs b
def Cells (w : World) (b off : Nat) (cs : List Value) : Prop := ∀ j u, cs[j]? = some u → w.cell? ⟨b, off + j, none⟩ = some u
theorem Cells.append {w : World} {b off : Nat} {a c : List Value} (h : Cells w b off (a ++ c)) : Cells w b off a ∧ Cells w b (off + a.length) c := by
  refine ⟨fun j u hj => h j u ?_, fun j u hj => ?_⟩
  · rw [List.getElem?_append_left]
    · exact hj
    · exact (List.getElem?_eq_some_iff.1 hj).1
  · have := h (a.length + j) u (by rw [List.getElem?_append_right (by omega)]; simpa using hj)
    rwa [← Nat.add_assoc] at this
theorem Cells.join {w : World} {b off : Nat} {a c : List Value} (h : Cells w b off a) (h' : Cells w b (off + a.length) c) : Cells w b off (a ++ c) := by
  intro j u hj
  by_cases hlt : j < a.length
  · rw [List.getElem?_append_left hlt] at hj
    exact h j u hj
  · rw [List.getElem?_append_right (by omega)] at hj
    have := h' (j - a.length) u hj
    rwa [show off + a.length + (j - a.length) = off + j from by omega] at this
theorem Cells.keep {w w' : World} {b off : Nat} {cs : List Value} (h : Cells w b off cs) (hb : w'.heap[b]? = w.heap[b]?) : Cells w' b off cs :=
  fun j u hj => (World.cell?_of_block (a := ⟨b, off + j, none⟩) hb).trans (h j u hj)
section
variable {α : Type} {R R' : α → List Value → Prop}
theorem Row.mono (h : ∀ x a, R x a → R' x a) : ∀ {xs : List α} {cs : List Value}, Row R xs cs → Row R' xs cs
  | [], _, hr => hr
  | _ :: _, _, ⟨a, b, e, hx, hr⟩ => ⟨a, b, e, h _ _ hx, Row.mono h hr⟩
theorem Row.append : ∀ {xs ys : List α} {as bs : List Value}, Row R xs as → Row R ys bs → Row R (xs ++ ys) (as ++ bs)
  | [], _, _, _, hx, hy => by simp only [Row] at hx; subst hx; simpa using hy
  | _ :: _, _, _, _, ⟨a, b, e, hx, hr⟩, hy => ⟨a, b ++ _, by rw [e, List.append_assoc], hx, Row.append hr hy⟩
theorem Row.split : ∀ {xs ys : List α} {cs : List Value}, Row R (xs ++ ys) cs → ∃ as bs, cs = as ++ bs ∧ Row R xs as ∧ Row R ys bs
  | [], _, cs, h => ⟨[], cs, rfl, rfl, h⟩
  | _ :: _, _, _, ⟨a, b, e, hx, hr⟩ => by
    obtain ⟨as, bs, e', h1, h2⟩ := Row.split hr
    exact ⟨a ++ as, bs, by rw [e, e', List.append_assoc], ⟨a, as, rfl, hx, h1⟩, h2⟩
theorem Row.len {n : Nat} (h : ∀ x a, R x a → a.length = n) : ∀ {xs : List α} {cs : List Value}, Row R xs cs → cs.length = xs.length * n
  | [], _, hr => by simp only [Row] at hr; subst hr; simp
  | _ :: _, _, ⟨a, b, e, hx, hr⟩ => by
    rw [e, List.length_append, h _ _ hx, Row.len h hr, List.length_cons, Nat.add_mul]
    omega
theorem Row.all {p : Value → Prop} (h : ∀ x a, R x a → ∀ u ∈ a, p u) : ∀ {xs : List α} {cs : List Value}, Row R xs cs → ∀ u ∈ cs, p u
  | [], _, hr, u, hu => by simp only [Row] at hr; subst hr; cases hu
  | _ :: _, _, ⟨a, b, e, hx, hr⟩, u, hu => by
    rw [e] at hu
    rcases List.mem_append.1 hu with hu | hu
    · exact h _ _ hx u hu
    · exact Row.all h hr u hu
/-- Element i's piece, and what stands around it. -/
theorem Row.at {n : Nat} (hn : ∀ x a, R x a → a.length = n) {xs : List α} {cs : List Value} (h : Row R xs cs) (i : Nat) (hi : i < xs.length) (d : α) :
    ∃ pre a post, cs = pre ++ a ++ post ∧ pre.length = i * n ∧ R (xs.getD i d) a ∧ ∀ y b, R y b → Row R (xs.set i y) (pre ++ b ++ post) := by
  have e : xs = xs.take i ++ xs[i] :: xs.drop (i + 1) := by simp
  have h' := h
  rw [e] at h'
  obtain ⟨pre, r, e1, h1, a, post, e2, h2, h3⟩ := h'.split
  refine ⟨pre, a, post, by rw [e1, e2, List.append_assoc], ?_, ?_, ?_⟩
  · rw [Row.len hn h1, List.length_take, Nat.min_eq_left (by omega)]
  · have : xs.getD i d = xs[i] := by simp [List.getD, List.getElem?_eq_getElem hi]
    rw [this]; exact h2
  · intro y b hy
    rw [List.set_eq_take_append_cons_drop, if_pos hi, List.append_assoc]
    exact h1.append ⟨b, post, rfl, hy, h3⟩
end
/-! ### data -/
/-- A value of an interface's type: nil or not. -/
def IR (b : Bool) (x : Value) : Prop := (b = false ∧ x = .nilIface) ∨ (b = true ∧ ∃ te pe, x = .iface te pe)
theorem IR.one {b : Bool} {x : Value} (h : IR b x) : x.oneCell' = true := by
  rcases h with ⟨_, e⟩ | ⟨_, _, _, e⟩ <;> rw [e] <;> rfl
def DR (w : World) (own : Nat → Prop) : (t : Ty) → t.den → List Value → Prop
  | .int k, n, cs => cs = [.int k n]
  | .bool, b, cs => cs = [.bool b]
  | .str, s, cs => cs = [.string s]
  | .unit, _, cs => cs = []
  | .pair a b, x, cs => ∃ c1 c2, cs = c1 ++ c2 ∧ DR w own a x.1 c1 ∧ DR w own b x.2 c2
  | .agg t, x, cs => DR w own t x cs
  | .arr n t, l, cs => l.length = n ∧ Row (DR w own t) l cs
  | .nilp, _, cs => cs = [.pointer none]
  | .fn f, _, cs => cs = [.func (.func f) #[] #[]]
  | .ifc, b, cs => ∃ x, cs = [x] ∧ IR b x
  | .sl _ t, l, cs => ∃ a c, cs = [.slice a l.length c] ∧ l.length ≤ c ∧
      (l ≠ [] → ∃ b off css, a = some ⟨b, off, none⟩ ∧ ¬ own b ∧ b < w.heap.size ∧ Row (DR w own t) l css ∧ Cells w b off css)
theorem DR.len {w : World} {own : Nat → Prop} : ∀ {t : Ty} {x : t.den} {cs : List Value}, DR w own t x cs → cs.length = t.size
  | .int _, _, _, h => by simp only [DR] at h; subst h; rfl
  | .bool, _, _, h => by simp only [DR] at h; subst h; rfl
  | .str, _, _, h => by simp only [DR] at h; subst h; rfl
  | .unit, _, _, h => by simp only [DR] at h; subst h; rfl
  | .nilp, _, _, h => by simp only [DR] at h; subst h; rfl
  | .fn _, _, _, h => by simp only [DR] at h; subst h; rfl
  | .ifc, _, _, ⟨_, e, _⟩ => by rw [e]; rfl
  | .pair _ _, _, _, ⟨_, _, e, h1, h2⟩ => by rw [e, List.length_append, DR.len h1, DR.len h2]; rfl
  | .agg t, _, _, h => DR.len (t := t) (by simpa only [DR] using h)
  | .arr _ t, _, _, ⟨hl, h⟩ => by rw [Row.len (fun _ _ => DR.len (t := t)) h, hl]; rfl
  | .sl _ _, _, _, ⟨_, _, e, _⟩ => by rw [e]; rfl
theorem DR.one {w : World} {own : Nat → Prop} : ∀ {t : Ty} {x : t.den} {cs : List Value}, DR w own t x cs → ∀ u ∈ cs, u.oneCell' = true
  | .int _, _, _, h, u, hu => by simp only [DR] at h; subst h; simp at hu; subst hu; rfl
  | .bool, _, _, h, u, hu => by simp only [DR] at h; subst h; simp at hu; subst hu; rfl
  | .str, _, _, h, u, hu => by simp only [DR] at h; subst h; simp at hu; subst hu; rfl
  | .unit, _, _, h, u, hu => by simp only [DR] at h; subst h; simp at hu
  | .nilp, _, _, h, u, hu => by simp only [DR] at h; subst h; simp at hu; subst hu; rfl
  | .fn _, _, _, h, u, hu => by simp only [DR] at h; subst h; simp at hu; subst hu; rfl
  | .ifc, _, _, ⟨_, e, h⟩, u, hu => by rw [e] at hu; simp at hu; subst hu; exact h.one
  | .pair _ _, _, _, ⟨_, _, e, h1, h2⟩, u, hu => by
    rw [e] at hu
    rcases List.mem_append.1 hu with hu | hu
    · exact DR.one h1 u hu
    · exact DR.one h2 u hu
  | .agg t, _, _, h, u, hu => DR.one (t := t) (by simpa only [DR] using h) u hu
  | .arr _ t, _, _, ⟨_, h⟩, u, hu => Row.all (fun _ _ h => DR.one (t := t) h) h u hu
  | .sl _ _, _, _, ⟨_, _, e, _⟩, u, hu => by rw [e] at hu; simp at hu; subst hu; rfl
/-- Kept where what is not owned stays, and nothing old comes to be owned. -/
theorem DR.keep {w w' : World} {own own' : Nat → Prop} (hw : ∀ b, b < w.heap.size → ¬ own b → w'.heap[b]? = w.heap[b]?) (hs : w.heap.size ≤ w'.heap.size)
    (ho : ∀ b, b < w.heap.size → own' b → own b) : ∀ {t : Ty} {x : t.den} {cs : List Value}, DR w own t x cs → DR w' own' t x cs
  | .int _, _, _, h => h
  | .bool, _, _, h => h
  | .str, _, _, h => h
  | .unit, _, _, h => h
  | .nilp, _, _, h => h
  | .fn _, _, _, h => h
  | .ifc, _, _, h => h
  | .pair _ _, _, _, ⟨c1, c2, e, h1, h2⟩ => ⟨c1, c2, e, DR.keep hw hs ho h1, DR.keep hw hs ho h2⟩
  | .agg _, _, _, h => by simp only [DR] at h ⊢; exact DR.keep hw hs ho h
  | .arr _ t, _, _, ⟨hl, h⟩ => ⟨hl, h.mono fun _ _ hx => DR.keep hw hs ho (t := t) hx⟩
  | .sl _ t, _, _, ⟨a, c, e, hc, h⟩ => ⟨a, c, e, hc, fun hn => by
      obtain ⟨b, off, css, ha, hb, hlt, hr, hcs⟩ := h hn
      exact ⟨b, off, css, ha, fun hx => hb (ho b hlt hx), Nat.lt_of_lt_of_le hlt hs, hr.mono fun _ _ hx => DR.keep hw hs ho (t := t) hx, hcs.keep (hw b hlt hb)⟩⟩
/-- Without references: in whatever world. -/
theorem DR.any {w w' : World} {own own' : Nat → Prop} : ∀ {t : Ty} {x : t.den} {cs : List Value}, t.refs = false → DR w own t x cs → DR w' own' t x cs
  | .int _, _, _, _, h => h
  | .bool, _, _, _, h => h
  | .str, _, _, _, h => h
  | .unit, _, _, _, h => h
  | .nilp, _, _, _, h => h
  | .fn _, _, _, _, h => h
  | .ifc, _, _, _, h => h
  | .pair _ _, _, _, hr, ⟨c1, c2, e, h1, h2⟩ => by
    simp only [Ty.refs, Bool.or_eq_false_iff] at hr
    exact ⟨c1, c2, e, DR.any hr.1 h1, DR.any hr.2 h2⟩
  | .agg _, _, _, hr, h => by simp only [DR] at h ⊢; exact DR.any (by simpa only [Ty.refs] using hr) h
  | .arr _ t, _, _, hr, ⟨hl, h⟩ => ⟨hl, h.mono fun _ _ hx => DR.any (t := t) (by simpa only [Ty.refs] using hr) hx⟩
  | .sl _ _, _, _, hr, _ => by simp [Ty.refs] at hr
/-- One value of a type, as data. -/
def TV (w : World) (own : Nat → Prop) (t : Ty) (y : t.den) (x : Value) : Prop :=
  if t.isAgg then ∃ cs : List Value, x = .agg cs.toArray ∧ DR w own t y cs else DR w own t y [x]
theorem TV.keep {w w' : World} {own own' : Nat → Prop} (hw : ∀ b, b < w.heap.size → ¬ own b → w'.heap[b]? = w.heap[b]?) (hs : w.heap.size ≤ w'.heap.size)
    (ho : ∀ b, b < w.heap.size → own' b → own b) {t : Ty} {y : t.den} {x : Value} (h : TV w own t y x) : TV w' own' t y x := by
  unfold TV at h ⊢
  split at h
  · rename_i ha; rw [if_pos ha]; obtain ⟨cs, e, hd⟩ := h; exact ⟨cs, e, hd.keep hw hs ho⟩
  · rename_i ha; rw [if_neg ha]; exact h.keep hw hs ho
/-- The entries of a map read as pairs. -/
def MR (w : World) (own : Nat → Prop) (k t : Ty) : List (k.den × t.den) → List MapEntry → Prop
  | [], es => es = []
  | p :: l, es => ∃ e es', es = e :: es' ∧ TV w own k p.1 e.key ∧ TV w own t p.2 e.val ∧ MR w own k t l es'
theorem MR.keep {w w' : World} {own own' : Nat → Prop} (hw : ∀ b, b < w.heap.size → ¬ own b → w'.heap[b]? = w.heap[b]?) (hs : w.heap.size ≤ w'.heap.size)
    (ho : ∀ b, b < w.heap.size → own' b → own b) {k t : Ty} : ∀ {l : List (k.den × t.den)} {es : List MapEntry}, MR w own k t l es → MR w' own' k t l es
  | [], _, h => h
  | _ :: _, _, ⟨e, es', h0, h1, h2, h3⟩ => ⟨e, es', h0, h1.keep hw hs ho, h2.keep hw hs ho, MR.keep hw hs ho h3⟩
theorem MR.len {w : World} {own : Nat → Prop} {k t : Ty} : ∀ {l : List (k.den × t.den)} {es : List MapEntry}, MR w own k t l es → es.length = l.length
  | [], _, h => by rw [show _ = [] from h]; rfl
  | _ :: _, _, ⟨_, _, h0, _, _, h3⟩ => by rw [h0]; simp [MR.len h3]
/-! ### symbolic values -/
def hb : Value → Option Nat
  | .slice (some a) _ _ => some a.block
  | .pointer (some a) => some a.block
  | .map (some r) => some r
  | _ => none
def PathAt : List PS → V → Nat → Prop
  | [], _, off => off = 0
  | .fld j :: p, v, off => ∃ c u o, v = .agg c ∧ nth c j = some u ∧ off = offN c j + o ∧ PathAt p u o
  | .idx i :: p, v, off => ∃ n t l o, v = .arr n t l ∧ 0 ≤ i ∧ i < n ∧ off = i.toNat * t.size + o ∧ PathAt p (enc t (l.getD i.toNat (dflt t))) o
/-- An address, or a slice of so many cells. -/
def spV (k : Option Nat) (b off : Nat) : Value := match k with
  | none => .pointer (some ⟨b, off, none⟩)
  | some n => .slice (some ⟨b, off, none⟩) n n
theorem spV_one (k : Option Nat) (b off : Nat) : (spV k b off).oneCell' = true := by cases k <;> rfl
def FR (w : World) (own : Nat → Prop) (ρ : Nat → Value) (m : Mem) : V → List Value → Prop
  | .int k n, cs => cs = [.int k n]
  | .bool b, cs => cs = [.bool b]
  | .str s, cs => cs = [.string s]
  | .dead, cs => ∃ x : Value, cs = [x] ∧ x.oneCell' = true
  | .nils, cs => cs = [.slice none 0 0]
  | .nilp, cs => cs = [.pointer none]
  | .fn f, cs => cs = [.func (.func f) #[] #[]]
  | .ifc b, cs => ∃ x, cs = [x] ∧ IR b x
  | .mp d, cs => ∃ r, ρ d = .map (some r) ∧ cs = [.map (some r)] ∧ ∃ K E k t l, getM m d = some (.map K E k t l)
  | .unit, cs => cs = []
  | .pair a b, cs => ∃ c1 c2, cs = c1 ++ c2 ∧ FR w own ρ m a c1 ∧ FR w own ρ m b c2
  | .agg v, cs => FR w own ρ m v cs
  | .arr n t l, cs => DR w own (.arr n t) l cs
  | .sl E t l, cs => DR w own (.sl E t) l cs
  | .rs d, cs => cs = [ρ d] ∧ ∃ E t l, getM m d = some (.row E t l)
  | .ptr d p, cs => ∃ b off v, ρ d = .pointer (some ⟨b, 0, none⟩) ∧ getM m d = some (.box v) ∧ PathAt p v off ∧ cs = [.pointer (some ⟨b, off, none⟩)]
  | .eptr d i p, cs => ∃ E t l b cap off, getM m d = some (.row E t l) ∧ ρ d = .slice (some ⟨b, 0, none⟩) l.length cap ∧ 0 ≤ i ∧ i < l.length ∧
      PathAt p (enc t (l.getD i.toNat (dflt t))) off ∧ cs = [.pointer (some ⟨b, i.toNat * t.size + off, none⟩)]
  | .sptr k u, cs => ∃ b off us, cs = [spV k b off] ∧ ¬ own b ∧ b < w.heap.size ∧ FR w own ρ m u us ∧ Cells w b off us
  | .any, _ => False
  | .undef, _ => False
  | .tup _, _ => False
/-- One value by itself. -/
def V1 (w : World) (own : Nat → Prop) (ρ : Nat → Value) (m : Mem) (v : V) (x : Value) : Prop :=
  match v with
  | .any => True
  | .undef => x = undef
  | .agg c => ∃ cs : List Value, x = .agg cs.toArray ∧ FR w own ρ m (.agg c) cs
  | .arr n t l => ∃ cs : List Value, x = .agg cs.toArray ∧ FR w own ρ m (.arr n t l) cs
  | v => FR w own ρ m v [x]
def TR (w : World) (own : Nat → Prop) (ρ : Nat → Value) (m : Mem) : V → List Value → Prop
  | .unit, xs => xs = []
  | .pair a b, xs => ∃ y ys, xs = y :: ys ∧ V1 w own ρ m a y ∧ TR w own ρ m b ys
  | _, _ => False
/-- Several values as one: a tuple, or a function with what it holds. -/
def tupVal (c : V) (xs : List Value) : Value := match isClo c with
  | none => .tuple xs.toArray
  | some (f, n) => .func (.func f) ((xs.drop 3).take n.toNat).toArray ((xs.drop 3).drop n.toNat).toArray
theorem isClo_pair {a b : V} (h : a ≠ .undef) : isClo (.pair a b) = none := by
  cases a <;> first | rfl | exact (h rfl).elim
def VR (w : World) (own : Nat → Prop) (ρ : Nat → Value) (m : Mem) (v : V) (x : Value) : Prop :=
  match v with
  | .tup c => ∃ xs : List Value, x = tupVal c xs ∧ TR w own ρ m c xs
  | v => V1 w own ρ m v x
/-- What holds of the keys that a value names stays. -/
structure Keeps (m m' : Mem) (ρ ρ' : Nat → Value) (d : Nat) : Prop where
  h : ρ' d = ρ d
  box : ∀ v, getM m d = some (.box v) → ∃ v', getM m' d = some (.box v') ∧ ∀ p off, PathAt p v off → PathAt p v' off
  row : ∀ E t l, getM m d = some (.row E t l) → ∃ l', getM m' d = some (.row E t l') ∧ l'.length = l.length
  map : ∀ K E k t l, getM m d = some (.map K E k t l) → ∃ l', getM m' d = some (.map K E k t l')
theorem Keeps.refl (m : Mem) (ρ : Nat → Value) (d : Nat) : Keeps m m ρ ρ d := ⟨rfl, fun v h => ⟨v, h, fun _ _ h => h⟩, fun _ _ l h => ⟨l, h, rfl⟩, fun _ _ _ _ l h => ⟨l, h⟩⟩
theorem Keeps.same {m m' : Mem} {ρ ρ' : Nat → Value} {d : Nat} (h : ρ' d = ρ d) (hm : getM m' d = getM m d) : Keeps m m' ρ ρ' d :=
  ⟨h, fun v hv => ⟨v, hm.trans hv, fun _ _ h => h⟩, fun _ _ l hl => ⟨l, hm.trans hl, rfl⟩, fun _ _ _ _ l hl => ⟨l, hm.trans hl⟩⟩
/-! #### paths in plain data -/
theorem size_enc : ∀ (t : Ty) (x : t.den), (enc t x).size = t.size
  | .int _, _ => rfl | .bool, _ => rfl | .str, _ => rfl | .unit, _ => rfl | .nilp, _ => rfl | .fn _, _ => rfl | .ifc, _ => rfl | .sl _ _, _ => rfl | .arr _ _, _ => rfl
  | .pair a b, x => by simp only [enc, V.size, Ty.size, size_enc]
  | .agg t, x => by simp only [enc, V.size, Ty.size, size_enc]
theorem nth_enc : ∀ (t : Ty) (j : Nat), (∀ x, nth (enc t x) j = none) ∨ ∃ (t' : Ty) (g : t.den → t'.den) (o : Nat), ∀ x, nth (enc t x) j = some (enc t' (g x)) ∧ offN (enc t x) j = o
  | .unit, _ => .inl fun _ => by simp [enc, nth]
  | .pair a _, 0 => .inr ⟨a, fun x => x.1, 0, fun _ => ⟨rfl, rfl⟩⟩
  | .pair a b, j + 1 => by
    rcases nth_enc b j with h | ⟨t', g, o, h⟩
    · exact .inl fun x => by simp only [enc, nth]; exact h x.2
    · exact .inr ⟨t', fun x => g x.2, a.size + o, fun x => by simp only [enc, nth, offN, size_enc]; exact ⟨(h x.2).1, by rw [(h x.2).2]⟩⟩
  | .int k, 0 => .inr ⟨.int k, id, 0, fun _ => ⟨rfl, rfl⟩⟩
  | .int _, _ + 1 => .inl fun _ => rfl
  | .bool, 0 => .inr ⟨.bool, id, 0, fun _ => ⟨rfl, rfl⟩⟩
  | .bool, _ + 1 => .inl fun _ => rfl
  | .nilp, 0 => .inr ⟨.nilp, id, 0, fun _ => ⟨rfl, rfl⟩⟩
  | .nilp, _ + 1 => .inl fun _ => rfl
  | .fn f, 0 => .inr ⟨.fn f, id, 0, fun _ => ⟨rfl, rfl⟩⟩
  | .fn _, _ + 1 => .inl fun _ => rfl
  | .ifc, 0 => .inr ⟨.ifc, id, 0, fun _ => ⟨rfl, rfl⟩⟩
  | .ifc, _ + 1 => .inl fun _ => rfl
  | .str, 0 => .inr ⟨.str, id, 0, fun _ => ⟨rfl, rfl⟩⟩
  | .str, _ + 1 => .inl fun _ => rfl
  | .agg t, 0 => .inr ⟨.agg t, id, 0, fun _ => ⟨rfl, rfl⟩⟩
  | .agg _, _ + 1 => .inl fun _ => rfl
  | .arr n t, 0 => .inr ⟨.arr n t, id, 0, fun _ => ⟨rfl, rfl⟩⟩
  | .arr _ _, _ + 1 => .inl fun _ => rfl
  | .sl E t, 0 => .inr ⟨.sl E t, id, 0, fun _ => ⟨rfl, rfl⟩⟩
  | .sl _ _, _ + 1 => .inl fun _ => rfl
theorem enc_agg {t : Ty} {x : t.den} {c : V} (h : enc t x = .agg c) : ∃ (t' : Ty) (g : t.den → t'.den), ∀ y, enc t y = .agg (enc t' (g y)) := by
  cases t <;> simp [enc] at h
  case agg t' => exact ⟨t', id, fun _ => rfl⟩
theorem enc_arr {t : Ty} {x : t.den} {n : Nat} {s : Ty} {l : List s.den} (h : enc t x = .arr n s l) : ∃ g : t.den → List s.den, ∀ y, enc t y = .arr n s (g y) := by
  cases t <;> simp [enc] at h
  case arr n' s' =>
    obtain ⟨rfl, rfl, h⟩ := h
    exact ⟨id, fun _ => rfl⟩
/-- Where a path leads in data hangs on the type alone. -/
theorem path_enc : ∀ (p : List PS) (t : Ty) (x y : t.den) (off : Nat), PathAt p (enc t x) off → PathAt p (enc t y) off
  | [], _, _, _, _, h => h
  | .fld j :: p, t, x, y, off, ⟨c, u, o, e, hn, ho, hp⟩ => by
    obtain ⟨t', g, hg⟩ := enc_agg e
    have e1 := (hg x).symm.trans e
    injection e1 with e1
    rcases nth_enc t' j with h | ⟨t2, g2, o2, h⟩
    · rw [← e1, h] at hn; cases hn
    · rw [← e1, (h (g x)).1] at hn
      injection hn with hn
      rw [← hn] at hp
      refine ⟨_, _, o, hg y, (h (g y)).1, ?_, path_enc p t2 _ _ o hp⟩
      rw [ho, ← e1, (h (g x)).2, (h (g y)).2]
  | .idx i :: p, t, x, y, off, ⟨n, s, l, o, e, h0, h1, ho, hp⟩ => by
    obtain ⟨g, hg⟩ := enc_arr e
    exact ⟨n, s, g y, o, hg y, h0, h1, ho, path_enc p s _ _ o hp⟩
/-! #### the same shape -/
theorem same_nth : ∀ {a b : V} {j : Nat} {u : V}, same a b = true → nth a j = some u → ∃ u', nth b j = some u' ∧ same u u' = true ∧ offN a j = offN b j := by
  intro a
  induction a with
  | pair a b iha ihb =>
    intro c j u h hn
    cases c <;> simp [same, V.one] at h
    case pair c d =>
      cases j with
      | zero => simp [nth] at hn; subst hn; exact ⟨c, rfl, h.1, rfl⟩
      | succ j =>
        simp only [nth] at hn
        obtain ⟨u', h1, h2, h3⟩ := ihb h.2 hn
        refine ⟨u', h1, h2, ?_⟩
        simp only [offN, h3]
        congr 1
        clear iha ihb h1 h2 h3 hn
        have : ∀ {a c : V}, same a c = true → a.size = c.size := by
          intro a
          induction a with
          | pair a b iha ihb => intro c h; cases c <;> simp [same, V.one] at h; simp [V.size, iha h.1, ihb h.2]
          | agg a ih => intro c h; cases c <;> simp [same, V.one] at h; simp [V.size, ih h]
          | unit => intro c h; cases c <;> simp [same, V.one] at h; rfl
          | arr n t l => intro c h; cases c <;> simp [same, V.one] at h; obtain ⟨rfl, rfl⟩ := h; rfl
          | _ => intro c h; cases c <;> simp [same, V.one] at h <;> rfl
        exact this h.1
  | unit => intro c j u h hn; cases c <;> simp [same, V.one] at h; simp [nth] at hn
  | agg a ih =>
    intro c j u h hn
    cases c <;> simp [same, V.one] at h
    case agg c =>
      cases j <;> simp [nth] at hn
      subst hn
      exact ⟨.agg c, rfl, h, rfl⟩
  | arr n t l =>
    intro c j u h hn
    cases c <;> simp [same, V.one] at h
    obtain ⟨rfl, rfl⟩ := h
    cases j <;> simp [nth] at hn
    subst hn
    exact ⟨_, rfl, by simp [same], rfl⟩
  | _ =>
    intro c j u h hn
    cases j <;> simp [nth] at hn
    subst hn
    cases c <;> simp [same, V.one] at h <;> exact ⟨_, rfl, by simp [same, V.one], rfl⟩
theorem same_size : ∀ {a b : V}, same a b = true → a.size = b.size := by
  intro a
  induction a with
  | pair a b iha ihb => intro c h; cases c <;> simp [same, V.one] at h; simp [V.size, iha h.1, ihb h.2]
  | agg a ih => intro c h; cases c <;> simp [same, V.one] at h; simp [V.size, ih h]
  | unit => intro c h; cases c <;> simp [same, V.one] at h; rfl
  | arr n t l => intro c h; cases c <;> simp [same, V.one] at h; obtain ⟨rfl, rfl⟩ := h; rfl
  | _ => intro c h; cases c <;> simp [same, V.one] at h <;> rfl
theorem same_path : ∀ (p : List PS) {a b : V} {off : Nat}, same a b = true → PathAt p a off → PathAt p b off
  | [], _, _, _, _, h => h
  | .fld j :: p, a, b, off, hs, ⟨c, u, o, e, hn, ho, hp⟩ => by
    subst e
    cases b <;> simp [same, V.one] at hs
    case agg c' =>
      obtain ⟨u', h1, h2, h3⟩ := same_nth hs hn
      exact ⟨c', u', o, rfl, h1, by rw [ho, h3], same_path p h2 hp⟩
  | .idx i :: p, a, b, off, hs, ⟨n, t, l, o, e, h0, h1, ho, hp⟩ => by
    subst e
    cases b <;> simp [same, V.one] at hs
    case arr n' t' l' =>
      obtain ⟨rfl, rfl⟩ := hs
      exact ⟨n, t, l', o, rfl, h0, h1, ho, path_enc p t _ _ o hp⟩
theorem same_refl_one : ∀ {a : V}, a.one = true → same a a = true := by
  intro a h
  cases a <;> simp [V.one] at h <;> simp [same, V.one]
end Go.Rf
