/- append; calls. -/
import Derived.Test.YthdddaikdiaijaaDoorRfL
import Derived.Lib.AppendStr
namespace Go.Rf
open Go.RowKit (Below)
section
variable {P : Program} {B : Nat → Prop} {C : Tab} {cx : Cx} {s s' s1 : St} {a : Act} {w w' : World} {ρ ρ' : Nat → Value} {R : Type} {out : List V → Mem → Option R} {J : Nat → St → Option R} {r : R}
  {o : Oper} {K : V → St → Tree} {N : Act → World → Prop} {Q : Exit → Act → World → Prop}
theorem run_append_zero {t ty e : TypeId} {i : TypeInfo} (ht : P.underlying t = some (.slice e)) (hi : P.info? e = some i) (B : Option Addr) (n cap : Nat) (hn : n ≤ cap) (A : Option Addr) (c : Nat) :
    (Builtin.append_ #[t, t] ty #[.slice B n cap, .slice A 0 c]).run P w = .ok (.slice B n cap) w := by
  cases A with
  | none => cases B <;> simp [Builtin.append_, run_underlying ht, sizeOf, typeInfo, hi, Builtin.lenOf, Builtin.firstCells, hn, storeCells]
  | some A => cases B <;> simp [Builtin.append_, run_underlying ht, sizeOf, typeInfo, hi, Builtin.lenOf, Builtin.firstCells, loadCells, loadCellsFrom, hn, storeCells]
theorem run_append_mine (base : Nat) (t ty e : TypeId) (i : TypeInfo) (z : Value) (ht : P.underlying t = some (.slice e)) (hi : P.info? e = some i) (hz : i.zero = some z) (hzs : z.cells.size = i.size)
    (v : Value) (n : Nat) (xs : List Value) (hown : w.ownsRow base e i.size v n xs) (A : Addr) (m c : Nat) (hm : 0 < m) (news : List Value) (hl : news.length = m * i.size)
    (hnews : ∀ j u, news[j]? = some u → w.cell? (A.add j) = some u) (h1 : ∀ u ∈ news, u.oneCell' = true) (h63 : n + m ≤ maxLen) (hbytes : (n + m) * i.bytes ≤ 140737488355328) (hbase : base ≤ w.heap.size) :
    ∃ v' w', (Builtin.append_ #[t, t] ty #[v, .slice (some A) m c]).run P w = .ok v' w' ∧ w'.ownsRow base e i.size v' (n + m) (xs ++ news) ∧ w.grownBy w' (hb v) ∧
      (∀ b, hb v' = some b → hb v = some b ∨ (w.heap.size ≤ b ∧ b < w'.heap.size)) := by
  have hsmall : n + m ≤ 9223372036854775807 := by simp only [maxLen] at h63; omega
  have hlen : (xs ++ news).length = (n + m) * i.size := by rw [List.length_append, hown.1, hl, Nat.add_mul]
  have grown : ∀ (old : Nat), old < n + m → ∀ (row : Option Nat),
      (w.drew.alloc (.cells (xs.toArray ++ news.toArray ++ Builtin.zeroCells z.cells (grownCap w (n + m) old e - (n + m))) e)).ownsRow base e i.size
        (.slice (some ⟨w.heap.size, 0, none⟩) (n + m) (grownCap w (n + m) old e)) (n + m) (xs ++ news) ∧
      w.grownBy (w.drew.alloc (.cells (xs.toArray ++ news.toArray ++ Builtin.zeroCells z.cells (grownCap w (n + m) old e - (n + m))) e)) row := by
    intro old ho row
    have hge := grownCap_ge w (n + m) old e
    have hcm : grownCap w (n + m) old e ≤ maxLen := grownCap_le_maxLen w (n + m) old e h63
    refine ⟨⟨hlen, .inr ⟨w.heap.size, _, _, rfl, hbase, heap_alloc_new w.drew _, hge, hcm, ?_, ?_⟩⟩, ⟨rfl, rfl, rfl, by simp, fun k hk _ => heap_alloc_old w.drew _ k hk⟩⟩
    · simp only [Array.size_append, List.size_toArray, size_zeroCells, hzs, hown.1, hl, ← Nat.add_mul]
      congr 1
      omega
    · simp only [Array.toList_append, List.append_assoc]
      rw [← List.append_assoc, ← hlen]
      exact List.take_left
  have fresh : ∀ (cs : Array Value) (b : Nat), some w.heap.size = some b → w.heap.size ≤ b ∧ b < (w.drew.alloc (.cells cs e)).heap.size := by
    intro cs b hb'
    cases hb'
    exact ⟨Nat.le_refl _, by simp⟩
  rcases hown.2 with ⟨rfl, rfl⟩ | ⟨g, cap, cur, rfl, hbg, hg, hnc, hcm, hcs, htake⟩
  · have hx : xs = [] := List.eq_nil_of_length_eq_zero (by simpa using hown.1)
    subst hx
    have hr := run_append_nil (P := P) w t ty e i z ht hi hz A m c news hl hnews hm (by omega) (by have hb := hbytes; simp only [Nat.zero_add] at hb; omega)
    have hgr := grown 0 (by omega) (hb (.slice none 0 0))
    simp only [Nat.zero_add, List.nil_append, Array.empty_append] at hgr ⊢
    exact ⟨_, _, hr, hgr.1, hgr.2, fun b hb' => .inr (fresh _ b hb')⟩
  · by_cases hroom : n + m ≤ cap
    · have hfit : n * i.size + news.length ≤ cur.size := by rw [hl, hcs, ← Nat.add_mul]; exact Nat.mul_le_mul_right _ hroom
      have hr := run_append_room (P := P) w t ty e i ht hi g n cap cur hg A m c news hl hnews h1 hroom hfit
      refine ⟨_, _, hr, ⟨hlen, .inr ⟨g, cap, _, rfl, hbg, setRow_heap w g cur _ e _ hg, hroom, hcm, ?_, ?_⟩⟩, ⟨rfl, rfl, rfl, by simp, fun k _ hk => setRow_other w g k _ (fun e => hk (by simp [hb, e]))⟩, fun b hb' => .inl hb'⟩
      · simp only [List.size_toArray, List.length_append, List.length_take, List.length_drop, Array.length_toList]
        omega
      · rw [htake, ← hlen]
        exact List.take_left
    · have holds : ∀ j u, xs[j]? = some u → w.cell? ((⟨g, 0, none⟩ : Addr).add j) = some u := hown.cells (g := g) rfl
      have hr := run_append_grow (P := P) w t ty e i z ht hi hz ⟨g, 0, none⟩ n cap xs hown.1 holds A m c news hl hnews (by omega) (by omega) (growslice_fits (by omega) hbytes)
      have hgr := grown cap (by omega) (hb (.slice (some ⟨g, 0, none⟩) n cap))
      exact ⟨_, _, hr, hgr.1, hgr.2, fun b hb' => .inr (fresh _ b hb')⟩
theorem bel_grown {ok : Nat → Prop} {row : Option Nat} (hg : w.grownBy w' row) (hr : ∀ k, row = some k → ok k) : Bel ok w w' :=
  ⟨hg.os, hg.tape, hg.output, hg.size, fun k hk hn => hg.block k hk fun e => hn (hr k e.symm)⟩
def killO (d : Nat) : Obj → Obj
  | .box v => .box (v.killIn d)
  | o => o
theorem getM_killM (d : Nat) : ∀ (m : Mem) (e : Nat), getM (killM d m) e = (getM m e).map (killO d)
  | [], _ => rfl
  | (k, .box u) :: m, e => by
    simp only [killM, getM]
    split
    · rfl
    · exact getM_killM d m e
  | (k, .row _ _ _) :: m, e => by
    simp only [killM, getM]
    split
    · rfl
    · exact getM_killM d m e
  | (k, .map _ _ _ _ _) :: m, e => by
    simp only [killM, getM]
    split
    · rfl
    · exact getM_killM d m e
theorem same_kill {own : Nat → Prop} {m : Mem} (d : Nat) : ∀ {v : V} {cs : List Value}, FR w own ρ m v cs → same v (v.killIn d) = true ∧ (v.killIn d).has d = false := by
  intro v
  induction v with
  | pair p q ihp ihq => rintro cs ⟨_, _, _, h1, h2⟩; simp [V.killIn, same, V.has, ihp h1, ihq h2]
  | agg p ih => intro cs h; have := ih h; simp [V.killIn, same, V.has, this]
  | rs e => intro cs _; simp only [V.killIn]; split <;> rename_i he <;> simp [same, V.one, V.has, he]
  | mp e => intro cs _; simp only [V.killIn]; split <;> rename_i he <;> simp [same, V.one, V.has, he]
  | ptr e p => intro cs _; simp only [V.killIn]; split <;> rename_i he <;> simp [same, V.one, V.has, he]
  | eptr e i p => intro cs _; simp only [V.killIn]; split <;> rename_i he <;> simp [same, V.one, V.has, he]
  | sptr k u _ =>
    intro cs _
    simp only [V.killIn]
    split
    · simp [same, V.one, V.has]
    · rename_i hu; exact ⟨by simp [same, V.one], by simpa [V.has] using hu⟩
  | tup p _ => intro cs h; exact h.elim
  | any => intro cs h; exact h.elim
  | undef => intro cs h; exact h.elim
  | arr n t l => intro cs _; simp [V.killIn, same, V.has]
  | unit => intro cs _; simp [V.killIn, same, V.has]
  | _ => intro cs _; simp [V.killIn, same, V.one, V.has]
theorem FR.kill {own : Nat → Prop} {m m' : Mem} (d : Nat) (hk : ∀ e, Keeps m m' ρ ρ e) : ∀ {v : V} {cs : List Value}, (∀ u ∈ cs, u.oneCell' = true) → FR w own ρ m v cs → FR w own ρ m' (v.killIn d) cs := by
  have kp : ∀ {v : V} {cs : List Value}, FR w own ρ m v cs → FR w own ρ m' v cs := fun h => FR.keep (fun _ _ _ => rfl) (Nat.le_refl _) (fun _ _ h => h) (fun e _ => hk e) h
  have dead : ∀ {v : V} {cs : List Value}, (∀ u ∈ cs, u.oneCell' = true) → cs.length = 1 → FR w own ρ m' .dead cs := by
    intro v cs ho hl
    match cs, hl with
    | [x], _ => exact ⟨x, rfl, ho x (by simp)⟩
  intro v
  induction v with
  | pair p q ihp ihq =>
    rintro cs ho ⟨c1, c2, e, h1, h2⟩
    exact ⟨c1, c2, e, ihp (fun u hu => ho u (by rw [e]; simp [hu])) h1, ihq (fun u hu => ho u (by rw [e]; simp [hu])) h2⟩
  | agg p ih => intro cs ho h; exact ih ho h
  | rs e =>
    intro cs ho h
    simp only [V.killIn]
    split
    · exact dead (v := .rs e) ho h.len
    · exact kp h
  | ptr e p =>
    intro cs ho h
    simp only [V.killIn]
    split
    · exact dead (v := .rs e) ho h.len
    · exact kp h
  | mp e =>
    intro cs ho h
    simp only [V.killIn]
    split
    · exact dead (v := .mp e) ho h.len
    · exact kp h
  | eptr e i p =>
    intro cs ho h
    simp only [V.killIn]
    split
    · exact dead (v := .rs e) ho h.len
    · exact kp h
  | sptr k u _ =>
    intro cs ho h
    simp only [V.killIn]
    split
    · exact dead (v := .sptr k u) ho h.len
    · exact kp h
  | _ => intro cs _ h; exact kp h
/-- Nobody holds a key any more. -/
theorem Sim.kill (h : Sim cx s a w ρ) (d : Nat) : Sim cx { s with fr := s.fr.map (V.kill d), mem := killM d s.mem } a w ρ ∧ (∀ t, ((s.fr.map (V.kill d)).get t).has d = false) ∧
    (∀ e v, getM (killM d s.mem) e = some (.box v) → v.has d = false) ∧ (∀ e E t l, getM s.mem e = some (.row E t l) → getM (killM d s.mem) e = some (.row E t l)) ∧
    (∀ e, (getM (killM d s.mem) e).isSome = (getM s.mem e).isSome) := by
  have hget := getM_killM d s.mem
  have hsome : ∀ e, (getM (killM d s.mem) e).isSome = (getM s.mem e).isSome := fun e => by rw [hget e]; cases getM s.mem e <;> rfl
  have sub : ∀ e o, getM (killM d s.mem) e = some o → ∃ o', getM s.mem e = some o' ∧ o = killO d o' := by
    intro e o he
    rw [hget e] at he
    cases ho : getM s.mem e with
    | none => rw [ho] at he; cases he
    | some o' => rw [ho] at he; cases he; exact ⟨o', rfl, rfl⟩
  have keep : ∀ e, Keeps s.mem (killM d s.mem) ρ ρ e := by
    intro e
    refine ⟨rfl, fun v hv => ⟨v.killIn d, by rw [hget e, hv]; rfl, fun p off hp => ?_⟩, fun E t l hl => ⟨l, by rw [hget e, hl]; rfl, rfl⟩, fun K E k t l hl => ⟨l, by rw [hget e, hl]; rfl⟩⟩
    obtain ⟨_, cs, _, _, _, hf, _⟩ := h.ob e _ hv
    exact same_path p (same_kill d hf).1 hp
  have own_iff : ∀ b, Own cx ρ (killM d s.mem) b ↔ Own cx ρ s.mem b := by
    intro b
    constructor
    · rintro (hx | ⟨e, o, he, hb'⟩)
      · exact .inl hx
      · obtain ⟨o', ho', _⟩ := sub e o he; exact .inr ⟨e, o', ho', hb'⟩
    · rintro (hx | ⟨e, o, he, hb'⟩)
      · exact .inl hx
      · exact .inr ⟨e, killO d o, by rw [hget e, he]; rfl, hb'⟩
  have gm := Fr.get_map (V.kill d) rfl s.fr
  refine ⟨h.step (s' := { s with fr := s.fr.map (V.kill d), mem := killM d s.mem }) rfl (Bel.refl _ _) (fun _ _ _ => rfl) (fun b _ hb' => (own_iff b).1 hb') ?_ ?_ ?_ ?_ (fun e x o hp he => by obtain ⟨o', ho', _⟩ := sub e o he; exact h.pn e x o' hp ho') ?_, ?_, ?_, ?_, hsome⟩
  · intro e o b he hb'
    obtain ⟨o', ho', _⟩ := sub e o he
    exact h.ge e o' b ho' hb'
  · intro e o b he hb'
    obtain ⟨o', ho', _⟩ := sub e o he
    exact h.no e o' b ho' hb'
  · intro e e' o o2 b he he' h1 h2
    obtain ⟨o', ho', _⟩ := sub e o he
    obtain ⟨o2', ho2', _⟩ := sub e' o2 he'
    exact h.ds e e' o' o2' b ho' ho2' h1 h2
  · intro e o he
    obtain ⟨o', ho', e1⟩ := sub e o he
    have hor := h.ob e o' ho'
    cases o' with
    | box v =>
      subst e1
      obtain ⟨b, cs, T, h1, h2, h3, hT⟩ := hor
      refine ⟨b, cs, T, h1, h2, ?_, fun U hU => hT U (by rw [← hU]; exact (tag_killIn d v).symm)⟩
      have h4 := h3.kill d keep (h.ones h3)
      exact FR.keep (fun _ _ _ => rfl) (Nat.le_refl _) (fun b _ hb' => (own_iff b).1 hb') (fun e _ => Keeps.refl _ _ e) h4
    | row E t l =>
      subst e1
      exact OR.keep hor rfl (fun _ _ => rfl) (fun _ _ _ => rfl) (Nat.le_refl _) (fun b _ hb' => (own_iff b).1 hb') (fun v hv => by cases hv) (m' := killM d s.mem)
    | map K E k t l =>
      subst e1
      exact OR.keep hor rfl (fun _ _ => rfl) (fun _ _ _ => rfl) (Nat.le_refl _) (fun b _ hb' => (own_iff b).1 hb') (fun v hv => by cases hv) (m' := killM d s.mem)
  · intro t
    show (s.fr.map (V.kill d)).get t = .any ∨ _
    rw [gm t]
    unfold V.kill
    split
    · exact .inl rfl
    · exact .inr ⟨rfl, fun e _ => keep e⟩
  · intro t
    rw [gm t]
    unfold V.kill
    split
    · rfl
    · rename_i hh; simpa using hh
  · intro e v he
    obtain ⟨o', ho', e1⟩ := sub e _ he
    cases o' with
    | box u =>
      cases e1
      obtain ⟨_, cs, _, _, _, hf, _⟩ := h.ob e _ ho'
      exact (same_kill d hf).2
    | row _ _ _ => cases e1
    | map _ _ _ _ _ => cases e1
  · intro e E t l hl
    rw [hget e, hl]
    rfl
/-! ### rows that are handed over -/
def dimO (D : List Nat) (k : Nat) : Obj → Obj
  | .box v => .box (match D.contains k with | true => v | false => v.dim D)
  | o => o
theorem getM_dimM (D : List Nat) : ∀ (m : Mem) (e : Nat), getM (dimM D m) e = (getM m e).map (dimO D e)
  | [], _ => rfl
  | (k, .box u) :: m, e => by
    simp only [dimM, getM]
    split
    · rename_i h; subst h; rfl
    · exact getM_dimM D m e
  | (k, .row _ _ _) :: m, e => by
    simp only [dimM, getM]
    split
    · rfl
    · exact getM_dimM D m e
  | (k, .map _ _ _ _ _) :: m, e => by
    simp only [dimM, getM]
    split
    · rfl
    · exact getM_dimM D m e
theorem tail_dim (D : List Nat) : ∀ v : V, (v.dim D).tail = v.tail := by
  intro v
  induction v with
  | pair a b _ ih => exact ih
  | rs e => simp only [V.dim]; split <;> rfl
  | ptr e p => simp only [V.dim]; split <;> rfl
  | eptr e i p => simp only [V.dim]; split <;> rfl
  | sptr k u => simp only [V.dim]; split <;> rfl
  | _ => rfl
theorem tag_dim (D : List Nat) (v : V) : (v.dim D).tag = v.tag := by
  cases v
  case agg c => exact tail_dim D c
  all_goals first | rfl | (simp only [V.dim]; split <;> rfl)
theorem same_dim {own : Nat → Prop} {m : Mem} (D : List Nat) : ∀ {v : V} {cs : List Value}, FR w own ρ m v cs → same v (v.dim D) = true := by
  intro v
  induction v with
  | pair p q ihp ihq => rintro cs ⟨_, _, _, h1, h2⟩; simp [V.dim, same, ihp h1, ihq h2]
  | agg p ih => intro cs h; have := ih h; simp [V.dim, same, this]
  | rs e => intro cs _; simp only [V.dim]; split <;> simp [same, V.one]
  | ptr e p => intro cs _; simp only [V.dim]; split <;> simp [same, V.one]
  | eptr e i p => intro cs _; simp only [V.dim]; split <;> simp [same, V.one]
  | sptr k u _ => intro cs _; simp only [V.dim]; split <;> simp [same, V.one]
  | tup p _ => intro cs h; exact h.elim
  | any => intro cs h; exact h.elim
  | undef => intro cs h; exact h.elim
  | arr n t l => intro cs _; simp [V.dim, same]
  | unit => intro cs _; simp [V.dim, same]
  | _ => intro cs _; simp [V.dim, same, V.one]
theorem FR.dim {own : Nat → Prop} {m m' : Mem} (D : List Nat) (hk : ∀ e, Keeps m m' ρ ρ e) : ∀ {v : V} {cs : List Value}, (∀ u ∈ cs, u.oneCell' = true) → FR w own ρ m v cs → FR w own ρ m' (v.dim D) cs := by
  have kp : ∀ {v : V} {cs : List Value}, FR w own ρ m v cs → FR w own ρ m' v cs := fun h => FR.keep (fun _ _ _ => rfl) (Nat.le_refl _) (fun _ _ h => h) (fun e _ => hk e) h
  have dead : ∀ {v : V} {cs : List Value}, (∀ u ∈ cs, u.oneCell' = true) → cs.length = 1 → FR w own ρ m' .dead cs := by
    intro v cs ho hl
    match cs, hl with
    | [x], _ => exact ⟨x, rfl, ho x (by simp)⟩
  intro v
  induction v with
  | pair p q ihp ihq =>
    rintro cs ho ⟨c1, c2, e, h1, h2⟩
    exact ⟨c1, c2, e, ihp (fun u hu => ho u (by rw [e]; simp [hu])) h1, ihq (fun u hu => ho u (by rw [e]; simp [hu])) h2⟩
  | agg p ih => intro cs ho h; exact ih ho h
  | rs e =>
    intro cs ho h
    simp only [V.dim]
    split
    · exact dead (v := .rs e) ho h.len
    · exact kp h
  | ptr e p =>
    intro cs ho h
    simp only [V.dim]
    split
    · exact dead (v := .rs e) ho h.len
    · exact kp h
  | eptr e i p =>
    intro cs ho h
    simp only [V.dim]
    split
    · exact dead (v := .rs e) ho h.len
    · exact kp h
  | sptr k u _ =>
    intro cs ho h
    simp only [V.dim]
    split
    · exact kp h
    · exact dead (v := .sptr k u) ho h.len
  | _ => intro cs _ h; exact kp h
/-- The variables that are not handed over name these rows no more. -/
theorem Sim.dim (h : Sim cx s a w ρ) (D : List Nat) : Sim cx { s with mem := dimM D s.mem } a w ρ := by
  have hget := getM_dimM D s.mem
  have sub : ∀ e o, getM (dimM D s.mem) e = some o → ∃ o', getM s.mem e = some o' ∧ o = dimO D e o' := by
    intro e o he
    rw [hget e] at he
    cases ho : getM s.mem e with
    | none => rw [ho] at he; cases he
    | some o' => rw [ho] at he; cases he; exact ⟨o', rfl, rfl⟩
  have keep : ∀ e, Keeps s.mem (dimM D s.mem) ρ ρ e := by
    intro e
    refine ⟨rfl, fun v hv => ⟨match D.contains e with | true => v | false => v.dim D, by rw [hget e, hv]; rfl, fun p off hp => ?_⟩, fun E t l hl => ⟨l, by rw [hget e, hl]; rfl, rfl⟩, fun K E k t l hl => ⟨l, by rw [hget e, hl]; rfl⟩⟩
    obtain ⟨_, cs, _, _, _, hf, _⟩ := h.ob e _ hv
    split
    · exact hp
    · exact same_path p (same_dim D hf) hp
  have own_iff : ∀ b, Own cx ρ (dimM D s.mem) b ↔ Own cx ρ s.mem b := by
    intro b
    constructor
    · rintro (hx | ⟨e, o, he, hb'⟩)
      · exact .inl hx
      · obtain ⟨o', ho', _⟩ := sub e o he; exact .inr ⟨e, o', ho', hb'⟩
    · rintro (hx | ⟨e, o, he, hb'⟩)
      · exact .inl hx
      · exact .inr ⟨e, dimO D e o, by rw [hget e, he]; rfl, hb'⟩
  refine h.step (s' := { s with mem := dimM D s.mem }) rfl (Bel.refl _ _) (fun _ _ _ => rfl) (fun b _ hb' => (own_iff b).1 hb') ?_ ?_ ?_ ?_ (fun e x o hp he => by obtain ⟨o', ho', _⟩ := sub e o he; exact h.pn e x o' hp ho') (fun t => .inr ⟨rfl, fun e _ => keep e⟩)
  · intro e o b he hb'
    obtain ⟨o', ho', _⟩ := sub e o he
    exact h.ge e o' b ho' hb'
  · intro e o b he hb'
    obtain ⟨o', ho', _⟩ := sub e o he
    exact h.no e o' b ho' hb'
  · intro e e' o o2 b he he' h1 h2
    obtain ⟨o', ho', _⟩ := sub e o he
    obtain ⟨o2', ho2', _⟩ := sub e' o2 he'
    exact h.ds e e' o' o2' b ho' ho2' h1 h2
  · intro e o he
    obtain ⟨o', ho', e1⟩ := sub e o he
    have hor := h.ob e o' ho'
    cases o' with
    | box v =>
      subst e1
      obtain ⟨b, cs, T, h1, h2, h3, hT⟩ := hor
      cases hD : D.contains e with
      | true =>
        simp only [dimO, hD]
        exact ⟨b, cs, T, h1, h2, FR.keep (fun _ _ _ => rfl) (Nat.le_refl _) (fun b _ hb' => (own_iff b).1 hb') (fun e _ => keep e) h3, hT⟩
      | false =>
        simp only [dimO, hD]
        refine ⟨b, cs, T, h1, h2, ?_, fun U hU => hT U (by rw [← hU]; exact (tag_dim D v).symm)⟩
        have h4 := h3.dim D keep (h.ones h3)
        exact FR.keep (fun _ _ _ => rfl) (Nat.le_refl _) (fun b _ hb' => (own_iff b).1 hb') (fun e _ => Keeps.refl _ _ e) h4
    | row E t l =>
      subst e1
      exact OR.keep hor rfl (fun _ _ => rfl) (fun _ _ _ => rfl) (Nat.le_refl _) (fun b _ hb' => (own_iff b).1 hb') (fun v hv => by cases hv) (m' := dimM D s.mem)
    | map K E k t l =>
      subst e1
      exact OR.keep hor rfl (fun _ _ => rfl) (fun _ _ _ => rfl) (Nat.le_refl _) (fun b _ hb' => (own_iff b).1 hb') (fun v hv => by cases hv) (m' := dimM D s.mem)
theorem Sim.dimIf (h : Sim cx s a w ρ) (k D : List Nat) : Sim cx (dimIf k D s) a w ρ := by
  unfold Rf.dimIf
  split
  · exact h.dim D
  · exact h
theorem dimIf_some {k D : List Nat} {s : St} {d : Nat} {ob : Obj} (h : getM s.mem d = some ob) : ∃ ob', getM (dimIf k D s).mem d = some ob' := by
  unfold dimIf
  split
  · exact ⟨_, by rw [getM_dimM, h]; rfl⟩
  · exact ⟨ob, h⟩
theorem dimIf_back {k D : List Nat} {s : St} {d : Nat} {ob : Obj} (h : getM (dimIf k D s).mem d = some ob) : ∃ ob', getM s.mem d = some ob' := by
  unfold dimIf at h
  split at h
  · rw [getM_dimM] at h
    cases hs : getM s.mem d with
    | none => rw [hs] at h; cases h
    | some o => exact ⟨o, rfl⟩
  · exact ⟨ob, h⟩
/-- What an append reads from. -/
theorem src_sound (h : Sim cx s a w ρ) {E : TypeId} {t : Ty} {l : List t.den} {q : Operand} (hsrc : srcOf s.mem E t (ev s q) = some l) :
    ∃ A c, a.eval q = .slice A l.length c ∧ (l ≠ [] → ∃ b off css, A = some ⟨b, off, none⟩ ∧ Row (DR w (Own cx ρ s.mem) t) l css ∧ Cells w b off css) := by
  unfold srcOf at hsrc
  have hq := h.ev q
  cases hv : ev s q <;> rw [hv] at hq hsrc <;> simp only [dec] at hsrc <;> try (cases hsrc; done)
  case nils =>
    cases hsrc
    exact ⟨none, 0, hq.nils, fun h => (h rfl).elim⟩
  case sl E' t' l' =>
    split at hsrc
    · rename_i e
      obtain ⟨rfl, rfl⟩ := e
      cases hsrc
      obtain ⟨A, c, e, _, hc⟩ : DR w (Own cx ρ s.mem) (.sl E t') l' [a.eval q] := hq
      injection e with e
      refine ⟨A, c, e, fun hne => ?_⟩
      obtain ⟨b, off, css, e2, _, _, hr, hcs⟩ := hc hne
      exact ⟨b, off, css, e2, hr, hcs⟩
    · cases hsrc
  case rs d =>
    cases hm : getM s.mem d with
    | none => rw [hm] at hsrc; cases hsrc
    | some ob =>
      rw [hm] at hsrc
      cases ob with
      | box _ => cases hsrc
      | map _ _ _ _ _ => cases hsrc
      | row E' t' l' =>
        simp only at hsrc
        split at hsrc
        · rename_i e
          obtain ⟨rfl, rfl⟩ := e
          cases hsrc
          obtain ⟨e, _⟩ : [a.eval q] = [ρ d] ∧ _ := hq
          injection e with e
          obtain ⟨css, hrow, _, hρ⟩ := h.rows d E t' l' hm
          rcases hρ with ⟨e2, e3⟩ | ⟨b, cap, e2, _, _, hc⟩
          · subst e3
            exact ⟨none, 0, by rw [e, e2]; rfl, fun h => (h rfl).elim⟩
          · exact ⟨some ⟨b, 0, none⟩, cap, by rw [e, e2], fun _ => ⟨b, 0, css, rfl, hrow, hc⟩⟩
        · cases hsrc
/-- A row of bytes. -/
theorem row_u8 {own : Nat → Prop} : ∀ {l : List Int} {css : List Value}, Row (DR w own (.int .u8)) l css → css = l.map (Value.int .u8)
  | [], _, h => h
  | x :: l, _, ⟨c1, c2, e, h1, h2⟩ => by
    have h1 : c1 = [.int .u8 x] := h1
    subst h1; subst e
    rw [row_u8 h2]
    rfl
theorem push_all : ∀ (l : List Int) (s0 : ByteArray), l.foldl (fun s n => s.push (UInt8.ofNat n.toNat)) s0 = ⟨s0.data ++ (l.map fun n => UInt8.ofNat n.toNat).toArray⟩
  | [], s0 => by simp
  | x :: l, s0 => by
    rw [List.foldl_cons, push_all l]
    simp [ByteArray.push]
/-- Bytes as a text. -/
theorem bytes_run {A : Option Addr} {c : Nat} {l : List Int} (hcs : l ≠ [] → ∃ b off, A = some ⟨b, off, none⟩ ∧ Cells w b off (l.map (Value.int .u8))) :
    (Conv.bytesToString (.slice A l.length c)).run P w = .ok (.string (mkBytes l)) w := by
  have loop : ∀ (l : List Int) (s0 : ByteArray), (forIn (l.map (Value.int .u8)) s0 fun c r => (match c with
      | .int .u8 n => pure (ForInStep.yield (r.push (UInt8.ofNat n.toNat)))
      | _ => (do
        stuck "bytesToString: byte expected"
        pure (ForInStep.yield r)) : Sem (ForInStep ByteArray))).run P w = .ok (l.foldl (fun s n => s.push (UInt8.ofNat n.toNat)) s0) w := by
    intro l
    induction l with
    | nil => intro s0; simp
    | cons x l ih =>
      intro s0
      simp only [List.map_cons, List.forIn_cons, Sem.run_bind, Sem.run_pure, Result.andThen_ok, List.foldl_cons]
      exact ih _
  have hfin : l.foldl (fun s n => s.push (UInt8.ofNat n.toNat)) ByteArray.empty = mkBytes l := by
    rw [push_all, show ByteArray.empty.data = #[] from rfl, Array.empty_append]
    rfl
  cases A with
  | none =>
    cases l with
    | nil => rfl
    | cons x l => obtain ⟨_, _, e, _⟩ := hcs (by simp); cases e
  | some ad =>
    have hload : (loadCells ad l.length).run P w = .ok (l.map (Value.int .u8)).toArray w := by
      have := run_loadCells_list (P := P) w ad (l.map (Value.int .u8)) (fun j u hu => by
        have hne : l ≠ [] := by rintro rfl; simp at hu
        obtain ⟨b, off, e, hc⟩ := hcs hne
        cases e
        rw [add_at]
        exact hc j u hu)
      simpa using this
    unfold Conv.bytesToString
    simp only [Sem.run_bind, hload, Result.andThen_ok]
    rw [← Array.forIn_toList]
    have := loop l ByteArray.empty
    rw [hfin] at this
    exact (congrArg (fun r => Result.andThen r fun a w' => (pure (Value.string a) : Sem Value).run P w') this).trans rfl
theorem convert_sound {S T : TypeId} {x : Operand} (hE : ∀ b, ¬ B b) (ho : o.op = .convert S T x) (h : Sim cx s a w ρ) (hr : interp out J (evOp P C s o K) = some r) (hK : Owed cx a o.dst out J r K N) : Ran P B o a w N := by
  unfold evOp at hr
  rw [ho] at hr
  simp only at hr
  have hx := h.ev x
  have run : ∀ z, (∀ w', (convert S T (a.eval x)).run P w' = .ok z w') → ∀ w', Agree B w w' → (execOp a.eval o).run P w' = .ok (.value z) w' := by
    intro z h1 w' _
    have h1 := h1 w'
    unfold execOp
    rw [ho]
    simp [h1]
  split at hr
  · rename_i d k n k' hs ht hv
    rw [hv] at hx
    rw [hx.int] at run
    refine ran_pure (run (.int k (k.wrap k')) fun w' => ?_) (hK _ _ _ _ _ hr h (vr_int _ _))
    unfold convert
    simp only [Sem.run_bind, run_underlying hs w', run_underlying ht w', Result.andThen_ok]
    rfl
  · rename_i b hs ht hv
    rw [hv] at hx
    rw [hx.str] at run
    refine ran_pure (run (.string b) fun w' => ?_) (hK _ _ _ _ _ hr h (vr_str _))
    unfold convert
    simp only [Sem.run_bind, run_underlying hs w', run_underlying ht w', Result.andThen_ok]
    rfl
  · rename_i E hs ht
    split at hr
    · rename_i l hu8 hd
      obtain ⟨A, c, e, hcs⟩ := src_sound h (E := E) (t := .int .u8) (q := x) hd
      refine ran_pure (fun w' hw => ?_) (hK _ _ _ _ _ hr h (vr_str _))
      have hb := bytes_run (P := P) (w := w') (A := A) (c := c) (l := l) (fun hne => by
        obtain ⟨b, off, css, e1, e2, e3⟩ := hcs hne
        exact ⟨b, off, e1, by rw [← row_u8 e2]; exact e3.later hw (hE _)⟩)
      unfold execOp
      rw [ho]
      have hc : (convert S T (a.eval x)).run P w' = .ok (.string (mkBytes l)) w' := by
        rw [e]
        unfold convert
        simp only [Sem.run_bind, run_underlying hs w', run_underlying ht w', run_underlying hu8 w', Result.andThen_ok]
        exact hb
      simp [hc]
    · cases hr
  · cases hr
/-- The row behind an append: key d turns. -/
theorem append_core (_ : Sim cx s a w ρ) {T ty E : TypeId} {t : Ty} {i : TypeInfo} {z : Value} (hu : P.underlying T = some (.slice E)) (hi : P.info? E = some i) (hz : i.zero = some z) (hzs : z.cells.size = i.size)
    (hsz : i.size = t.size) {v : Value} {l l' : List t.den} {css : List Value} (hown : w.ownsRow 0 E t.size v l.length css) (hge : ∀ k, hb v = some k → cx.ok k) (hrow : Row (DR w (Own cx ρ s.mem) t) l css)
    {A : Option Addr} {c : Nat} (hsrc : l' ≠ [] → ∃ b off css', A = some ⟨b, off, none⟩ ∧ Row (DR w (Own cx ρ s.mem) t) l' css' ∧ Cells w b off css')
    (hmax : l.length + l'.length ≤ maxLen) (hbytes : (l.length + l'.length) * i.bytes ≤ 140737488355328) :
    ∃ v' w', (Builtin.append_ #[T, T] ty #[v, .slice A l'.length c]).run P w = .ok v' w' ∧ Bel cx.ok w w' ∧
      (∀ b, b < w.heap.size → hb v ≠ some b → w'.heap[b]? = w.heap[b]?) ∧ (∀ b, hb v' = some b → hb v = some b ∨ (w.heap.size ≤ b ∧ b < w'.heap.size)) ∧
      ∀ own', (∀ b, b < w.heap.size → own' b → Own cx ρ s.mem b) → (∀ b, hb v = some b → Own cx ρ s.mem b) → ∃ css2, w'.ownsRow 0 E t.size v' (l ++ l').length css2 ∧ Row (DR w' own' t) (l ++ l') css2 := by
  by_cases hne : l' = []
  · subst hne
    have hcap : ∃ B n cap, v = .slice B n cap ∧ n = l.length ∧ n ≤ cap := by
      rcases hown.2 with ⟨e, e2⟩ | ⟨g, cap, _, e, _, _, hle, _⟩
      · exact ⟨none, 0, 0, e, e2.symm, Nat.le_refl _⟩
      · exact ⟨_, _, cap, e, rfl, hle⟩
    obtain ⟨B, n, cap, rfl, rfl, hle⟩ := hcap
    refine ⟨_, w, run_append_zero hu hi B _ cap hle A c, Bel.refl _ _, fun _ _ _ => rfl, fun b hb' => .inl hb', fun own' ho _ => ⟨css, by simpa using hown, ?_⟩⟩
    simpa using hrow.mono fun _ _ hx => DR.keep (fun _ _ _ => rfl) (Nat.le_refl _) ho hx
  · obtain ⟨b, off, css', rfl, hrow', hcs⟩ := hsrc hne
    have hl' : css'.length = l'.length * i.size := by rw [hsz]; exact Row.len (fun _ _ => DR.len (t := t)) hrow'
    have hpos' : 0 < l'.length := List.length_pos_iff.2 hne
    rw [← hsz] at hown
    obtain ⟨v', w', hrun, hown', hg, hbv⟩ := run_append_mine (P := P) (w := w) 0 T ty E i z hu hi hz hzs v l.length css hown ⟨b, off, none⟩ l'.length c hpos' css' hl'
      (fun j u hj => by rw [add_at]; exact hcs j u hj) (fun u hu' => Row.all (fun _ _ hx => DR.one (t := t) hx) hrow' u hu') hmax hbytes (Nat.zero_le _)
    refine ⟨v', w', hrun, bel_grown hg hge, fun k hk hn => hg.block k hk (fun e => hn e.symm), hbv, fun own' ho hov => ⟨css ++ css', ?_, ?_⟩⟩
    · rw [List.length_append, ← hsz]; exact hown'
    · refine (Row.append hrow hrow').mono fun _ _ hx => DR.keep (fun k hk hn => hg.block k hk (fun e => hn (hov k e.symm))) hg.size ho hx
/-- A text behind a row of the call's own: where the row lies then. -/
theorem run_append_text (base : Nat) {t u ty e : TypeId} {i : TypeInfo} (ht : P.underlying t = some (.slice e)) (hu : P.underlying u = some .string) (hi : P.info? e = some i) (hz : i.zero = some (.int .u8 0)) (hsize : i.size = 1) (hby : i.bytes = 1)
    {v : Value} {n : Nat} {xs : List Value} (hown : w.ownsRow base e 1 v n xs) (b : ByteArray) (hb2 : n + b.size ≤ 140737488355328) (hbase : base ≤ w.heap.size) :
    ∃ v' w', (Builtin.append_ #[t, u] ty #[v, .string b]).run P w = .ok v' w' ∧ w'.ownsRow base e 1 v' (n + b.size) (xs ++ Lib.strCells b) ∧ w.grownBy w' (hb v) ∧
      (∀ k, hb v' = some k → hb v = some k ∨ (w.heap.size ≤ k ∧ k < w'.heap.size)) := by
  have hmx : n + b.size ≤ maxLen := by unfold maxLen; omega
  obtain ⟨v', w', hrun, hown', hg, _⟩ := Lib.run_append_own_string (P := P) w base t u ty e i ht hu hi hz hsize hby v n xs hown b hmx hb2 hbase
  have eb : v.ownBlock = hb v := by
    rcases hown.2 with ⟨e, _⟩ | ⟨g, cap, cur, e, _⟩ <;> rw [e] <;> rfl
  rw [eb] at hg
  refine ⟨v', w', hrun, hown', hg, fun k hk => ?_⟩
  have hklt : k < w'.heap.size := by
    rcases hown'.2 with ⟨e, _⟩ | ⟨g, cap, cur, e, _, h2, _⟩
    · rw [e] at hk; cases hk
    · rw [e] at hk; cases hk; exact (Array.getElem?_eq_some_iff.1 h2).1
  rcases hown.2 with ⟨e0, hn0⟩ | ⟨g, cap, cur, e0, _, hgc, hnc, hcm, hcs, htake⟩
  · -- a new row, or none
    subst e0
    by_cases hm : b.size = 0
    · have hf := Lib.run_firstCells_string (P := P) (w := w) 1 b
      rw [hm] at hf
      have h3 : (Builtin.append_ #[t, u] ty #[.slice none 0 0, .string b]).run P w = .ok (.slice none 0 0) w := by
        simp [Builtin.append_, run_underlying ht, run_underlying hu, sizeOf, typeInfo, hi, hsize, Builtin.lenOf, hm, hf]
      rw [h3] at hrun
      cases hrun
      cases hk
    · have h3 := run_append_nil_string (P := P) w t u ty e i (.int .u8 0) ht hu hi hz b (by omega) (by omega) (by rw [hby]; omega)
      rw [h3] at hrun
      cases hrun
      cases hk
      exact .inr ⟨Nat.le_refl _, hklt⟩
  · subst e0
    by_cases hroom : n + b.size ≤ cap
    · have h3 := Lib.run_append_room_string (P := P) w t u ty e i ht hu hi hsize g n cap cur hgc b hroom (by omega)
      rw [h3] at hrun
      cases hrun
      exact .inl hk
    · have hxl : xs.length = n := by simpa using hown.1
      have holds : ∀ j u, xs[j]? = some u → w.cell? ((⟨g, 0, none⟩ : Addr).add j) = some u := hown.cells (g := g) rfl
      have h3 := Lib.run_append_grow_string (P := P) w t u ty e i (.int .u8 0) ht hu hi hz ⟨g, 0, none⟩ n cap xs (by rw [hsize]; omega) holds b (by omega) (by omega) (by rw [hby]; exact growslice_fits (by omega) (by omega))
      rw [h3] at hrun
      cases hrun
      cases hk
      exact .inr ⟨Nat.le_refl _, hklt⟩
theorem rowB (w : World) (own : Nat → Prop) : ∀ l : List UInt8, Row (DR w own (.int .u8)) (l.map fun x => (x.toNat : Int)) (l.map fun b => Value.int .u8 b.toNat)
  | [] => rfl
  | x :: l => ⟨[Value.int .u8 x.toNat], _, rfl, rfl, rowB w own l⟩
theorem bytesL_len (b : ByteArray) : (bytesL b).length = b.size := by
  simp [bytesL]
theorem appendS_core (_ : Sim cx s a w ρ) {T T' ty E : TypeId} {i : TypeInfo} (hu : P.underlying T = some (.slice E)) (hu' : P.underlying T' = some .string) (hi : P.info? E = some i) (hz : i.zero = some (.int .u8 0)) (hsz : i.size = 1) (hby : i.bytes = 1)
    {v : Value} {l : List Int} {css : List Value} (hown : w.ownsRow 0 E 1 v l.length css) (hge : ∀ k, hb v = some k → cx.ok k) (hrow : Row (DR w (Own cx ρ s.mem) (.int .u8)) l css) {b : ByteArray} (hb2 : l.length + b.size ≤ maxBytes) :
    ∃ v' w', (Builtin.append_ #[T, T'] ty #[v, .string b]).run P w = .ok v' w' ∧ Bel cx.ok w w' ∧
      (∀ k, k < w.heap.size → hb v ≠ some k → w'.heap[k]? = w.heap[k]?) ∧ (∀ k, hb v' = some k → hb v = some k ∨ (w.heap.size ≤ k ∧ k < w'.heap.size)) ∧
      ∀ own', (∀ k, k < w.heap.size → own' k → Own cx ρ s.mem k) → (∀ k, hb v = some k → Own cx ρ s.mem k) → ∃ css2, w'.ownsRow 0 E 1 v' (l ++ bytesL b).length css2 ∧ Row (DR w' own' (.int .u8)) (l ++ bytesL b) css2 := by
  obtain ⟨v', w', hrun, hown', hg, hbv⟩ := run_append_text (P := P) (ty := ty) 0 hu hu' hi hz hsz hby hown b hb2 (Nat.zero_le _)
  refine ⟨v', w', hrun, bel_grown hg hge, fun k hk hn => hg.block k hk (fun e => hn e.symm), hbv, fun own' ho hov => ⟨css ++ Lib.strCells b, ?_, ?_⟩⟩
  · rw [List.length_append, bytesL_len]; exact hown'
  · exact (Row.append hrow (rowB w _ b.data.toList)).mono fun _ _ hx => DR.keep (fun k hk hn => hg.block k hk (fun e => hn (hov k e.symm))) hg.size ho hx
theorem appendS_sound {c : Call} {p q : Operand} {T T' : TypeId} (ho : o.op = .call c) (hc : c.callee = .builtin .append) (hl : c.args.toList = [p, q]) (htys : c.argTypes.toList = [T, T']) (h : Sim cx s a w ρ)
    (hr : interp out J (evAppendS P s o.dst T T' (ev s p) (ev s q) K) = some r) (hK : Owed cx a o.dst out J r K N) : o.wp P a w N Q := by
  have hp := h.ev p
  have hq := h.ev q
  have ha2 : c.args.map a.eval = #[a.eval p, a.eval q] := by apply Array.toList_inj.1; simp [hl]
  have ht2 : c.argTypes = #[T, T'] := Array.toList_inj.1 htys
  have run : ∀ z u, (Builtin.append_ #[T, T'] o.type #[a.eval p, a.eval q]).run P w = .ok z u → (execOp a.eval o).run P w = .ok (.value z) u := by
    intro z u hy
    rw [run_builtin ho hc, ha2, ht2]
    simp [builtin, hy]
  unfold evAppendS at hr
  split at hr
  · rename_i b E hqb hu hu'
    rw [hqb] at hq
    have eq : a.eval q = .string b := by
      have : [a.eval q] = [Value.string b] := hq
      injection this
    split at hr
    · rename_i i ht hi
      split at hr
      · rename_i hcond
        obtain ⟨hsz, hby⟩ := hcond
        split at hr
        · rename_i hz
          split at hr
          · rename_i d hvp
            rw [hvp] at hp
            obtain ⟨e, _⟩ : [a.eval p] = [ρ d] ∧ _ := hp
            injection e with e
            split at hr
            · rename_i E' l hm
              split at hr
              · rename_i hE
                obtain ⟨rfl, hkd⟩ := hE
                obtain ⟨hb2, hr⟩ := br_true hr no_fail
                have hb3 := of_decide_eq_true hb2
                obtain ⟨_, css, hown, hrow⟩ := h.ob d _ hm
                obtain ⟨v', w2, hrun, hbel, hkeep, hbv, hnew⟩ := appendS_core (P := P) (ty := o.type) h hu hu' hi hz hsz hby hown (fun k hk => (h.ge d _ k hm hk).1) hrow hb3
                obtain ⟨hk, hfr, hbx, hrows, hsome⟩ := h.kill d
                have hm2 := hrows d E' (.int .u8) l hm
                refine wp_pure (run v' w2 (by rw [e, eq]; exact hrun)) (hK _ _ _ (updH ρ d v') _ hr ?_ (vr_rs upd_same (getM_setM hm2)))
                refine hk.upd (s' := { s with fr := s.fr.map (V.kill d), mem := setM (killM d s.mem) d (.row E' (.int .u8) (l ++ bytesL b)) }) d (.row E' (.int .u8) (l ++ bytesL b)) rfl (getM_setM hm2) (fun e he => getM_setM_ne (fun x => he x.symm))
                  (fun e he => upd_ne he) hbel ?_ ?_ ?_ (.inl (by
                    cases hp : cx.pin d with
                    | none => rfl
                    | some x => have := h.pl d x hp; omega)) ?_ ?_
                · intro b hlt hor
                  rcases hor with hn | hn
                  · exact absurd (hn.symm.trans hm2) (by simp)
                  · exact hkeep b hlt hn
                · intro b hb'
                  rw [upd_same] at hb'
                  rcases hbv b hb' with h1 | h1
                  · exact .inl ⟨by simp [hm2], h1⟩
                  · exact .inr h1
                · obtain ⟨css2, h1, h2⟩ := hnew (Own cx (updH ρ d v') (setM (killM d s.mem) d (.row E' (.int .u8) (l ++ bytesL b)))) (by
                    rintro b hlt (hx | ⟨e, o2, he, hb'⟩)
                    · exact .inl hx
                    · by_cases hed : e = d
                      · subst hed
                        rw [upd_same] at hb'
                        rcases hbv b hb' with h1 | h1
                        · exact .inr ⟨_, _, hm, h1⟩
                        · omega
                      · rw [upd_ne hed] at hb'
                        rw [getM_setM_ne (fun x => hed x.symm)] at he
                        have := hsome e
                        rw [he] at this
                        obtain ⟨o3, ho3⟩ := Option.isSome_iff_exists.1 this.symm
                        exact .inr ⟨e, o3, ho3, hb'⟩) (fun b hb' => .inr ⟨d, _, hm, hb'⟩)
                  exact ⟨by decide, css2, by rw [upd_same]; exact h1, h2⟩
                · exact fun t => .inr ⟨rfl, fun hh => by
                    exact absurd ((hfr t).symm.trans hh) (by simp)⟩
                · exact fun e v _ he hh => by
                    exact absurd ((hbx e v he).symm.trans hh) (by simp)
              · cases hr
            · cases hr
          · rename_i hvp
            rw [hvp] at hp
            split at hr
            · rename_i d hd
              split at hr
              · rename_i s2 hf
                obtain ⟨hb2, hr⟩ := br_true hr no_fail
                have hb3 := of_decide_eq_true hb2
                have hown0 : w.ownsRow 0 E 1 (.slice none 0 0) ([] : List Int).length [] := ⟨by simp, .inl ⟨rfl, rfl⟩⟩
                obtain ⟨v', w2, hrun, hbel, hkeep, hbv, hnew⟩ := appendS_core (P := P) (ty := o.type) h hu hu' hi hz hsz hby hown0 (fun k hk => by cases hk) (l := []) rfl (b := b) (by simpa using hb3)
                obtain ⟨h2, _, _, _, _, hsub⟩ := h.free hf
                refine wp_pure (run v' w2 (by rw [hp.nils, eq]; exact hrun)) (hK _ _ _ (updH ρ (key d) v') _ hr ?_ (vr_rs upd_same (getM_cons _ _ _)))
                refine h.new hf (key_le _) (.row E (.int .u8) (bytesL b)) v' hbel (fun b hlt => hkeep b hlt (by simp [hb])) (fun b hb' => by
                  rcases hbv b hb' with h1 | h1
                  · cases h1
                  · exact h1) ?_
                intro ρ' m' hown' _ hd' _
                obtain ⟨css2, h3, h4⟩ := hnew (Own cx ρ' m') (fun b hlt hb' => by
                  rcases hown' b hlt hb' with hx | ⟨e, o2, he, h5⟩
                  · exact .inl hx
                  · exact .inr ⟨e, o2, hsub e o2 he, h5⟩) (fun b hb' => by cases hb')
                rw [List.nil_append] at h3 h4
                exact ⟨by decide, css2, by rw [hd']; exact h3, h4⟩
              · cases hr
            · cases hr
          · cases hr
        · cases hr
      · cases hr
    · cases hr
  · cases hr
theorem append_sound {c : Call} (ho : o.op = .call c) (hc : c.callee = .builtin .append) (h : Sim cx s a w ρ) (hr : interp out J (evOp P C s o K) = some r) (hK : Owed cx a o.dst out J r K N) : o.wp P a w N Q := by
  unfold evOp at hr
  rw [ho] at hr
  simp only [hc] at hr
  split at hr
  · rename_i x y T T' hargs htys
    split at hr
    · rename_i hT
      subst hT
      have hpq : ∃ p q, c.args.toList = [p, q] ∧ ev s p = x ∧ ev s q = y := by
        match hl : c.args.toList, hargs with
        | [p, q], hargs => simp only [List.map_cons, List.map_nil, List.cons.injEq, and_true] at hargs; exact ⟨p, q, rfl, hargs.1, hargs.2⟩
      obtain ⟨p, q, hl, rfl, rfl⟩ := hpq
      have hp := h.ev p
      have ha2 : c.args.map a.eval = #[a.eval p, a.eval q] := by apply Array.toList_inj.1; simp [hl]
      have ht2 : c.argTypes = #[T, T] := Array.toList_inj.1 htys
      have run : ∀ z u, (Builtin.append_ #[T, T] o.type #[a.eval p, a.eval q]).run P w = .ok z u → (execOp a.eval o).run P w = .ok (.value z) u := by
        intro z u hy
        rw [run_builtin ho hc, ha2, ht2]
        simp [builtin, hy]
      unfold evAppend at hr
      split at hr
      · rename_i E hu
        split at hr
        · rename_i t i zz ht hi hz
          split at hr
          · rename_i hcond
            obtain ⟨hsz, hpos, hby⟩ := hcond
            obtain ⟨i2, z, t2, hi2, hzv, ht3, _, _, hzs, _⟩ := zeroV_sound hz
            rw [hi] at hi2
            cases hi2
            have bytes_out : ∀ n m : Nat, (n + m) * i.bytes ≤ maxBytes → n + m ≤ maxLen ∧ (n + m) * i.bytes ≤ 140737488355328 := by
              intro n m hnm
              have h2 : n + m ≤ (n + m) * i.bytes := Nat.le_mul_of_pos_right _ hby
              simp only [maxBytes] at hnm
              exact ⟨by simp only [maxLen]; omega, hnm⟩
            split at hr
            · rename_i d hvp
              rw [hvp] at hp
              obtain ⟨e, _⟩ : [a.eval p] = [ρ d] ∧ _ := hp
              injection e with e
              split at hr
              · rename_i E' t' l hm
                split at hr
                · rename_i hE
                  obtain ⟨⟨rfl, rfl⟩, hkd⟩ := hE
                  split at hr
                  · rename_i l' hsrc
                    obtain ⟨hb2, hr⟩ := br_true hr no_fail
                    obtain ⟨hmax, hbytes⟩ := bytes_out _ _ (of_decide_eq_true hb2)
                    obtain ⟨A, cc, eq, hcells⟩ := src_sound h hsrc
                    obtain ⟨_, css, hown, hrow⟩ := h.ob d _ hm
                    obtain ⟨v', w2, hrun, hbel, hkeep, hbv, hnew⟩ := append_core (P := P) (ty := o.type) h hu hi hzv hzs hsz hown (fun k hk => (h.ge d _ k hm hk).1) hrow (c := cc) hcells hmax hbytes
                    obtain ⟨hk, hfr, hbx, hrows, hsome⟩ := h.kill d
                    have hm2 := hrows d E' t' l hm
                    refine wp_pure (run v' w2 (by rw [e, eq]; exact hrun)) (hK _ _ _ (updH ρ d v') _ hr ?_ (vr_rs upd_same (getM_setM hm2)))
                    refine hk.upd (s' := { s with fr := s.fr.map (V.kill d), mem := setM (killM d s.mem) d (.row E' t' (l ++ l')) }) d (.row E' t' (l ++ l')) rfl (getM_setM hm2) (fun e he => getM_setM_ne (fun x => he x.symm))
                      (fun e he => upd_ne he) hbel ?_ ?_ ?_ (.inl (by
                        cases hp : cx.pin d with
                        | none => rfl
                        | some x => have := h.pl d x hp; omega)) ?_ ?_
                    · intro b hlt hor
                      rcases hor with hn | hn
                      · exact absurd (hn.symm.trans hm2) (by simp)
                      · exact hkeep b hlt hn
                    · intro b hb'
                      rw [upd_same] at hb'
                      rcases hbv b hb' with h1 | h1
                      · exact .inl ⟨by simp [hm2], h1⟩
                      · exact .inr h1
                    · obtain ⟨css2, h1, h2⟩ := hnew (Own cx (updH ρ d v') (setM (killM d s.mem) d (.row E' t' (l ++ l')))) (by
                        rintro b hlt (hx | ⟨e, o2, he, hb'⟩)
                        · exact .inl hx
                        · by_cases hed : e = d
                          · subst hed
                            rw [upd_same] at hb'
                            rcases hbv b hb' with h1 | h1
                            · exact .inr ⟨_, _, hm, h1⟩
                            · omega
                          · rw [upd_ne hed] at hb'
                            rw [getM_setM_ne (fun x => hed x.symm)] at he
                            have := hsome e
                            rw [he] at this
                            obtain ⟨o3, ho3⟩ := Option.isSome_iff_exists.1 this.symm
                            exact .inr ⟨e, o3, ho3, hb'⟩) (fun b hb' => .inr ⟨d, _, hm, hb'⟩)
                      exact ⟨hpos, css2, by rw [upd_same]; exact h1, h2⟩
                    · exact fun t => .inr ⟨rfl, fun hh => by
                        exact absurd ((hfr t).symm.trans hh) (by simp)⟩
                    · exact fun e v _ he hh => by
                        exact absurd ((hbx e v he).symm.trans hh) (by simp)
                  · cases hr
                · cases hr
              · cases hr
            · rename_i hvp
              rw [hvp] at hp
              split at hr
              · rename_i d l' hd hsrc
                split at hr
                · rename_i s2 hf
                  obtain ⟨hb2, hr⟩ := br_true hr no_fail
                  have hb3 := of_decide_eq_true hb2
                  obtain ⟨hmax, hbytes⟩ := bytes_out 0 l'.length (by simpa using hb3)
                  obtain ⟨A, cc, eq, hcells⟩ := src_sound h hsrc
                  have hown0 : w.ownsRow 0 E t.size (.slice none 0 0) ([] : List t.den).length [] := ⟨by simp, .inl ⟨rfl, rfl⟩⟩
                  obtain ⟨v', w2, hrun, hbel, hkeep, hbv, hnew⟩ := append_core (P := P) (ty := o.type) h hu hi hzv hzs hsz hown0 (fun k hk => by cases hk) (l := []) rfl (c := cc) hcells (by simpa using hmax) (by simpa using hbytes)
                  obtain ⟨h2, _, _, _, _, hsub⟩ := h.free hf
                  refine wp_pure (run v' w2 (by rw [hp.nils, eq]; exact hrun)) (hK _ _ _ (updH ρ (key d) v') _ hr ?_ (vr_rs upd_same (getM_cons _ _ _)))
                  refine h.new hf (key_le _) (.row E t l') v' hbel (fun b hlt => hkeep b hlt (by simp [hb])) (fun b hb' => by
                    rcases hbv b hb' with h1 | h1
                    · cases h1
                    · exact h1) ?_
                  intro ρ' m' hown' _ hd' _
                  obtain ⟨css2, h3, h4⟩ := hnew (Own cx ρ' m') (fun b hlt hb' => by
                    rcases hown' b hlt hb' with hx | ⟨e, o2, he, h5⟩
                    · exact .inl hx
                    · exact .inr ⟨e, o2, hsub e o2 he, h5⟩) (fun b hb' => by cases hb')
                  exact ⟨hpos, css2, by rw [hd']; simpa using h3, by simpa using h4⟩
                · cases hr
              · cases hr
            · cases hr
          · cases hr
        · cases hr
      · cases hr
    · have hpq : ∃ p q, c.args.toList = [p, q] ∧ ev s p = x ∧ ev s q = y := by
        match hl : c.args.toList, hargs with
        | [p, q], hargs => simp only [List.map_cons, List.map_nil, List.cons.injEq, and_true] at hargs; exact ⟨p, q, rfl, hargs.1, hargs.2⟩
      obtain ⟨p, q, hl, rfl, rfl⟩ := hpq
      exact appendS_sound ho hc hl htys h hr hK
  · cases hr
end
end Go.Rf
