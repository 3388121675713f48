/- Addresses: what they lead to, loads, stores, fields, indexes. -/
import Derived.Test.YthdddaikdiaijaaDoorRfF
namespace Go.Rf
open Go.RowKit (Below)
theorem add_at (b off j : Nat) : (⟨b, off, none⟩ : Addr).add j = ⟨b, off + j, none⟩ := by unfold Addr.add; split <;> simp_all
theorem cells_of_row {w : World} {b : Nat} {pre us post : List Value} {T : TypeId} {f : Nat × Nat} (h : w.heap[b]? = some (.cells (pre ++ us ++ post).toArray T f)) : Cells w b pre.length us := by
  intro j u hu
  rw [cell_of_row w b _ _ T f h]
  have hj : j < us.length := (List.getElem?_eq_some_iff.1 hu).1
  simp only [List.getElem?_toArray, List.append_assoc]
  rw [List.getElem?_append_right (by omega), Nat.add_sub_cancel_left, List.getElem?_append_left hj]
  exact hu
section
variable {P : Program} {cx : Cx} {s s' : St} {a : Act} {w w' : World} {ρ ρ' : Nat → Value} {R : Type} {out : List V → Mem → Option R} {J : Nat → St → Option R} {r : R}
/-! ### zero values -/
theorem one1_some {f : Value → Option V} {cs : List Value} {v : V} {rest : List Value} (h : one1 f cs = some (v, rest)) : ∃ c, cs = c :: rest ∧ f c = some v := by
  cases cs with
  | nil => cases h
  | cons c r =>
    simp only [one1] at h
    cases hf : f c with
    | none => rw [hf] at h; cases h
    | some x => rw [hf] at h; cases h; exact ⟨c, rfl, hf⟩
theorem parseN_sound {α : Type} {Q : α → List Value → Prop} {p : List Value → Option (α × List Value)} (hp : ∀ cs x rest, p cs = some (x, rest) → ∃ c1, cs = c1 ++ rest ∧ Q x c1) :
    ∀ (n : Nat) (cs : List Value) (l : List α) (rest : List Value), parseN p n cs = some (l, rest) → ∃ c1, cs = c1 ++ rest ∧ l.length = n ∧ Row Q l c1 := by
  intro n
  induction n with
  | zero => intro cs l rest h; simp only [parseN] at h; cases h; exact ⟨[], rfl, rfl, rfl⟩
  | succ n ihn =>
    intro cs l rest h
    simp only [parseN] at h
    cases hx : p cs with
    | none => rw [hx] at h; cases h
    | some x =>
      rw [hx] at h
      simp only [Option.bind_some] at h
      cases hn : parseN p n x.2 with
      | none => rw [hn] at h; cases h
      | some z =>
        rw [hn] at h
        cases h
        obtain ⟨c1, e1, q1⟩ := hp cs x.1 x.2 hx
        obtain ⟨c2, e2, hl, hr⟩ := ihn x.2 z.1 z.2 hn
        exact ⟨c1 ++ c2, by rw [e1, e2, List.append_assoc], by simp [hl], c1, c2, rfl, q1, hr⟩
theorem parse_sound (w : World) (own : Nat → Prop) (ρ : Nat → Value) (m : Mem) : ∀ (t : Ty) (cs : List Value) (v : V) (rest : List Value), parse t cs = some (v, rest) → ∃ c1, cs = c1 ++ rest ∧ FR w own ρ m v c1 ∧ v.size = t.size := by
  intro t
  induction t with
  | int k =>
    intro cs v rest h
    obtain ⟨c, e, hc⟩ := one1_some h
    cases c <;> simp at hc
    obtain ⟨rfl, rfl⟩ := hc
    exact ⟨[_], e, rfl, rfl⟩
  | bool =>
    intro cs v rest h
    obtain ⟨c, e, hc⟩ := one1_some h
    cases c <;> simp at hc
    subst hc
    exact ⟨[_], e, rfl, rfl⟩
  | str =>
    intro cs v rest h
    obtain ⟨c, e, hc⟩ := one1_some h
    cases c <;> simp at hc
    subst hc
    exact ⟨[_], e, rfl, rfl⟩
  | unit =>
    intro cs v rest h
    cases h
    exact ⟨[], rfl, rfl, rfl⟩
  | ifc =>
    intro cs v rest h
    obtain ⟨c, e, hc⟩ := one1_some h
    split at hc
    · cases hc
      exact ⟨[_], e, (⟨_, rfl, .inl ⟨rfl, rfl⟩⟩ : ∃ x, [Value.nilIface] = [x] ∧ IR false x), rfl⟩
    · cases hc
  | nilp =>
    intro cs v rest h
    obtain ⟨c, e, hc⟩ := one1_some h
    split at hc
    · cases hc
      exact ⟨[_], e, rfl, rfl⟩
    · cases hc
      exact ⟨[_], e, ⟨_, rfl, rfl⟩, rfl⟩
    · cases hc
  | fn f => intro cs v rest h; cases h
  | pair a b iha ihb =>
    intro cs v rest h
    simp only [parse] at h
    cases ha : parse a cs with
    | none => rw [ha] at h; cases h
    | some x =>
      rw [ha] at h
      simp only [Option.bind_some] at h
      cases hb : parse b x.2 with
      | none => rw [hb] at h; cases h
      | some y =>
        rw [hb] at h
        cases h
        obtain ⟨c1, e1, f1, s1⟩ := iha cs x.1 x.2 ha
        obtain ⟨c2, e2, f2, s2⟩ := ihb x.2 y.1 y.2 hb
        exact ⟨c1 ++ c2, by rw [e1, e2, List.append_assoc], ⟨c1, c2, rfl, f1, f2⟩, by simp [V.size, Ty.size, s1, s2]⟩
  | agg t ih =>
    intro cs v rest h
    simp only [parse] at h
    cases ht : parse t cs with
    | none => rw [ht] at h; cases h
    | some x =>
      rw [ht] at h
      cases h
      obtain ⟨c1, e1, f1, s1⟩ := ih cs x.1 x.2 ht
      exact ⟨c1, e1, f1, s1⟩
  | sl E t _ =>
    intro cs v rest h
    obtain ⟨c, e, hc⟩ := one1_some h
    cases c <;> try (cases hc; done)
    case slice A l c =>
      cases A with
      | some _ => cases hc
      | none =>
        simp only at hc
        split at hc
        · rename_i e2
          obtain ⟨rfl, rfl⟩ := e2
          cases hc
          exact ⟨[_], e, rfl, rfl⟩
        · cases hc
  | arr n t ih =>
    intro cs v rest h
    simp only [parse] at h
    cases hn : parseN (fun r => (parse t r).bind fun x => (dec [] t x.1).map fun y => (y, x.2)) n cs with
    | none => rw [hn] at h; cases h
    | some x =>
      rw [hn] at h
      cases h
      obtain ⟨c1, e1, hl, hr⟩ := parseN_sound (Q := DR w own t) (fun cs y rest hp => by
        cases hx : parse t cs with
        | none => rw [hx] at hp; cases hp
        | some x =>
          rw [hx] at hp
          simp only [Option.bind_some] at hp
          cases hd : dec [] t x.1 with
          | none => rw [hd] at hp; cases hp
          | some z =>
            rw [hd] at hp
            cases hp
            obtain ⟨c1, e1, f1, _⟩ := ih cs x.1 x.2 hx
            exact ⟨c1, e1, dec_plain hd f1⟩) n cs x.1 x.2 hn
      exact ⟨c1, e1, ⟨hl, hr⟩, rfl⟩
theorem zeroV_all {T : TypeId} {v : V} (h : zeroV P T = some v) : ∃ i z t, P.info? T = some i ∧ i.zero = some z ∧ tyZ P 12 T = some t ∧ i.size = t.size ∧ v.size = t.size ∧
    z.cells.size = i.size ∧ (∀ w own ρ m, FR w own ρ m v z.cells.toList) ∧ v.tag = none := by
  unfold zeroV at h
  split at h
  · rename_i t i ht hi
    split at h
    · rename_i z hz
      split at h
      · rename_i v' hp
        split at h
        · rename_i hs
          obtain ⟨hs, htg⟩ := hs
          cases h
          have hh := fun w own ρ m => parse_sound w own ρ m t _ _ _ hp
          have hv := hh default (fun _ => False) (fun _ => undef) []
          obtain ⟨c1, e1, f1, s1⟩ := hv
          have hsz : z.cells.size = i.size := by
            have := f1.len
            rw [hs, ← s1, ← this]
            have e : z.cells.toList.length = c1.length := by rw [e1]; simp
            simpa using e
          refine ⟨i, z, t, hi, hz, ht, hs, s1, hsz, fun w own ρ m => ?_, htg⟩
          obtain ⟨c1, e1, f1, _⟩ := hh w own ρ m
          rw [e1]
          simpa using f1
        · cases h
      · cases h
    · cases h
  · cases h
theorem zeroV_sound {T : TypeId} {v : V} (h : zeroV P T = some v) : ∃ i z t, P.info? T = some i ∧ i.zero = some z ∧ tyZ P 12 T = some t ∧ i.size = t.size ∧ v.size = t.size ∧
    z.cells.size = i.size ∧ ∀ w own ρ m, FR w own ρ m v z.cells.toList := by
  obtain ⟨i, z, t, h1, h2, h3, h4, h5, h6, h7, _⟩ := zeroV_all h
  exact ⟨i, z, t, h1, h2, h3, h4, h5, h6, h7⟩
theorem zeroV_tag {T : TypeId} {v : V} (h : zeroV P T = some v) : v.tag = none := by
  obtain ⟨_, _, _, _, _, _, _, _, _, _, h⟩ := zeroV_all h
  exact h
/-! ### addresses -/
theorem path_snoc : ∀ (p : List PS) {v u : V} {off o : Nat} {q : PS}, PathAt p v off → getP v p = some u → PathAt [q] u o → PathAt (p ++ [q]) v (off + o)
  | [], v, u, off, o, q, hp, hg, hq => by
    simp only [PathAt] at hp
    simp only [getP] at hg
    cases hg
    subst hp
    simpa using hq
  | .fld j :: p, v, u, off, o, q, ⟨c, u1, o1, e, hn, ho, hp⟩, hg, hq => by
    subst e
    simp only [getP, hn, Option.bind_some] at hg
    exact ⟨c, u1, o1 + o, rfl, hn, by omega, path_snoc p hp hg hq⟩
  | .idx i :: p, v, u, off, o, q, ⟨n, t, l, o1, e, h0, h1, ho, hp⟩, hg, hq => by
    subst e
    simp only [getP] at hg
    exact ⟨n, t, l, o1 + o, rfl, h0, h1, by omega, path_snoc p hp hg hq⟩
theorem Sim.deref (h : Sim cx s a w ρ) {v u : V} {x : Value} (hd : Rf.deref s v = some u) (hv : VR w (Own cx ρ s.mem) ρ s.mem v x) :
    ∃ b off us, x = .pointer (some ⟨b, off, none⟩) ∧ FR w (Own cx ρ s.mem) ρ s.mem u us ∧ Cells w b off us := by
  cases v <;> simp only [Rf.deref] at hd <;> try (cases hd; done)
  case ptr d p =>
    obtain ⟨b, off, v, hr, hm, hp, e⟩ : FR w (Own cx ρ s.mem) ρ s.mem (.ptr d p) [x] := hv
    simp only [hm] at hd
    obtain ⟨b', cs, T, h1, h2, h3, _⟩ := h.ob d _ hm
    rw [hr] at h1
    cases h1
    obtain ⟨pre, us, post, e1, hl, hu⟩ := FR.path p h3 hp hd
    rw [e1] at h2
    injection e with e
    exact ⟨b, off, us, e, hu, hl ▸ cells_of_row h2⟩
  case eptr d i p =>
    obtain ⟨E, t, l, b, cap, off, hm, hr, h0, h1, hp, e⟩ : FR w (Own cx ρ s.mem) ρ s.mem (.eptr d i p) [x] := hv
    simp only [hm] at hd
    injection e with e
    obtain ⟨css, hrow, hlen, hρ⟩ := h.rows d E t l hm
    rcases hρ with ⟨e2, e3⟩ | ⟨b', cap', e2, _, _, hc⟩
    · subst e3; simp at h1; omega
    · rw [hr] at e2
      cases e2
      have hi : i.toNat < l.length := by omega
      obtain ⟨pre, c, post, e4, hl4, hc4, _⟩ := hrow.at (fun _ _ => DR.len (t := t)) i.toNat hi (dflt t)
      obtain ⟨pre2, us, post2, e5, hl5, hu⟩ := FR.path p (FR.enc (ρ := ρ) (m := s.mem) hc4) hp hd
      refine ⟨b, _, us, e, hu, ?_⟩
      rw [e4, e5] at hc
      have h6 := (Cells.append (a := pre ++ (pre2 ++ us ++ post2)) hc).1
      have h7 := (Cells.append h6).2
      have h8 := (Cells.append (Cells.append h7).1).2
      rw [← hl4, ← hl5]
      simpa using h8
  case sptr k u' =>
    cases k with
    | some _ => cases hd
    | none =>
    cases hd
    obtain ⟨b, off, us, e, hb, hlt, hu, hc⟩ : FR w (Own cx ρ s.mem) ρ s.mem (.sptr none u) [x] := hv
    injection e with e
    exact ⟨b, off, us, e, hu, hc⟩
/-- An address, one step on. -/
theorem Sim.step' {v u u' : V} {x : Value} {q : PS} {o : Nat} (hd : Rf.deref s v = some u) (hv : VR w (Own cx ρ s.mem) ρ s.mem v x)
    (hq : PathAt [q] u o) (hg : getP u [q] = some u') :
    ∃ b off, x = .pointer (some ⟨b, off, none⟩) ∧ VR w (Own cx ρ s.mem) ρ s.mem (Rf.stepV q u' v) (.pointer (some ⟨b, off + o, none⟩)) := by
  cases v <;> simp only [Rf.deref] at hd <;> try (cases hd; done)
  case ptr d p =>
    obtain ⟨b, off, v, hr, hm, hp, e⟩ : FR w (Own cx ρ s.mem) ρ s.mem (.ptr d p) [x] := hv
    simp only [hm] at hd
    injection e with e
    exact ⟨b, off, e, (⟨b, off + o, v, hr, hm, path_snoc p hp hd hq, rfl⟩ : FR w (Own cx ρ s.mem) ρ s.mem (.ptr d (p ++ [q])) _)⟩
  case eptr d i p =>
    obtain ⟨E, t, l, b, cap, off, hm, hr, h0, h1, hp, e⟩ : FR w (Own cx ρ s.mem) ρ s.mem (.eptr d i p) [x] := hv
    simp only [hm] at hd
    injection e with e
    exact ⟨b, _, e, (⟨E, t, l, b, cap, off + o, hm, hr, h0, h1, path_snoc p hp hd hq, by rw [Nat.add_assoc]⟩ : FR w (Own cx ρ s.mem) ρ s.mem (.eptr d i (p ++ [q])) _)⟩
  case sptr k u0 =>
    cases k with
    | some _ => cases hd
    | none =>
    cases hd
    obtain ⟨b, off, us, e, hb, hlt, hu, hc⟩ : FR w (Own cx ρ s.mem) ρ s.mem (.sptr none u) [x] := hv
    injection e with e
    obtain ⟨pre, us', post, e1, hl, hu'⟩ := FR.path [q] hu hq hg
    rw [e1] at hc
    have h6 := (Cells.append (Cells.append hc).1).2
    exact ⟨b, off, e, (⟨b, off + o, us', rfl, hb, hlt, hu', by rw [← hl]; exact h6⟩ : FR w (Own cx ρ s.mem) ρ s.mem (.sptr none u') _)⟩
/-! ### loads and stores -/
theorem run_isAgg {T : TypeId} (hu : ∃ d, P.underlying T = some d) : (isAgg T).run P w = .ok (isAggT P T) w := by
  obtain ⟨d, hu⟩ := hu
  unfold isAgg isAggT
  rw [Sem.run_bind, run_underlying hu w, hu]
  cases d <;> rfl
theorem fits_out {T : TypeId} {v : V} (h : fits P T v = true) : (∃ i, P.info? T = some i ∧ i.size = v.size) ∧ isAggT P T = v.isAgg ∧ (v.isAgg = true ∨ v.one = true) ∧ ∃ d, P.underlying T = some d := by
  unfold fits szOK at h
  simp only [Bool.and_eq_true, beq_iff_eq, Bool.or_eq_true] at h
  obtain ⟨⟨⟨h1, h2⟩, h3⟩, h4⟩ := h
  refine ⟨?_, h2, h3, Option.isSome_iff_exists.1 h4⟩
  split at h1
  · rename_i i hi; exact ⟨i, hi, by simpa using h1⟩
  · cases h1
/-- A value of one type, as one value. -/
theorem V1.of_cells {own : Nat → Prop} {m : Mem} {v : V} {cs : List Value} (h : FR w own ρ m v cs) (ha : v.isAgg = true) : V1 w own ρ m v (.agg cs.toArray) := by
  cases v <;> simp [V.isAgg] at ha <;> exact ⟨cs, rfl, h⟩
theorem V1.of_one {own : Nat → Prop} {m : Mem} {v : V} {x : Value} (h : FR w own ρ m v [x]) (ha : v.isAgg = false) : V1 w own ρ m v x := by
  cases v <;> simp [V.isAgg] at ha <;> first | exact h | exact h.elim
theorem VR.of_V1 {own : Nat → Prop} {m : Mem} {v : V} {x : Value} (h : V1 w own ρ m v x) (ht : ∀ c, v ≠ .tup c) : VR w own ρ m v x := by
  cases v <;> first | exact (ht _ rfl).elim | exact h
theorem V1.of_VR {own : Nat → Prop} {m : Mem} {v : V} {x : Value} (h : VR w own ρ m v x) (ht : ∀ c, v ≠ .tup c) : V1 w own ρ m v x := by
  cases v <;> first | exact (ht _ rfl).elim | exact h
theorem fits_notup {T : TypeId} {v : V} (h : fits P T v = true) : ∀ c, v ≠ .tup c := by
  intro c e
  subst e
  have := (fits_out h).2.2.1
  simp [V.isAgg, V.one] at this
theorem load_sound {own : Nat → Prop} {m : Mem} {T : TypeId} {v : V} {b off : Nat} {cs : List Value} (hf : fits P T v = true) (h : FR w own ρ m v cs) :
    ∃ x, (∀ w, Cells w b off cs → (loadVar T ⟨b, off, none⟩).run P w = .ok x w) ∧ VR w own ρ m v x := by
  obtain ⟨⟨i, hi, hsz⟩, hagg, hor, hu⟩ := fits_out hf
  have hlen := h.len
  cases ha : v.isAgg with
  | true =>
    refine ⟨.agg cs.toArray, fun w hc => ?_, VR.of_V1 (V1.of_cells h ha) (fits_notup hf)⟩
    unfold loadVar
    rw [Sem.run_bind, run_isAgg hu, hagg, ha]
    simp only [Result.andThen_ok]
    have hl := run_loadCells_list (P := P) w ⟨b, off, none⟩ cs (fun j u hu => by rw [add_at]; exact hc j u hu)
    have : i.size = cs.length := by rw [hsz, hlen]
    simp [sizeOf, typeInfo, hi, this, hl]
  | false =>
    have ho : v.one = true := by rcases hor with h1 | h1
                                 · rw [ha] at h1; cases h1
                                 · exact h1
    have h1 : v.size = 1 := by cases v <;> simp [V.one] at ho <;> rfl
    obtain ⟨x, rfl⟩ : ∃ x, cs = [x] := by
      rw [h1] at hlen
      match cs, hlen with
      | [x], _ => exact ⟨x, rfl⟩
    refine ⟨x, fun w hc => ?_, VR.of_V1 (V1.of_one h ha) (fits_notup hf)⟩
    unfold loadVar
    rw [Sem.run_bind, run_isAgg hu, hagg, ha]
    simp only [Result.andThen_ok]
    have hcell := hc 0 x rfl
    rw [Nat.add_zero] at hcell
    simp [hcell]
/-- The cells of a value that fits. -/
theorem VR.cells {own : Nat → Prop} {m : Mem} {T : TypeId} {v : V} {x : Value} (hf : fits P T v = true) (h : VR w own ρ m v x) (hone : ∀ cs, FR w own ρ m v cs → ∀ u ∈ cs, u.oneCell' = true) :
    ∃ cs, x.cells = cs.toArray ∧ FR w own ρ m v cs := by
  obtain ⟨_, _, hor, _⟩ := fits_out hf
  have h1 := V1.of_VR h (fits_notup hf)
  cases ha : v.isAgg with
  | true =>
    have : ∃ cs : List Value, x = .agg cs.toArray ∧ FR w own ρ m v cs := by
      cases v <;> simp [V.isAgg] at ha <;> exact h1
    obtain ⟨cs, rfl, hc⟩ := this
    exact ⟨cs, rfl, hc⟩
  | false =>
    have h2 : FR w own ρ m v [x] := by
      rcases hor with h3 | h3
      · rw [ha] at h3; cases h3
      · cases v <;> simp [V.one] at h3 <;> exact h1
    refine ⟨[x], ?_, h2⟩
    have h5 := hone _ h2 x (by simp)
    cases x <;> first | rfl | (exfalso; simp [Value.oneCell'] at h5)
theorem store_sound {T : TypeId} {x : Value} {v : V} {own : Nat → Prop} {m : Mem} {b : Nat} {E : TypeId} {pre us post cs : List Value} (hf : fits P T v = true) (hx : x.cells = cs.toArray) (hv : FR w own ρ m v cs)
    (hones : ∀ u ∈ cs, u.oneCell' = true) (hb : w.heap[b]? = some (.cells (pre ++ us ++ post).toArray E (0, 0))) (hl : us.length = cs.length) :
    (storeVar T ⟨b, pre.length, none⟩ x).run P w = .ok () (w.setRow b (pre ++ cs ++ post).toArray) := by
  obtain ⟨⟨i, hi, hsz⟩, _, _, _⟩ := fits_out hf
  have hcl := hv.len
  have h := run_storeCells_at P b pre.length E cs 0 (pre ++ us ++ post).toArray w hb (by simp; omega) hones
  unfold storeVar
  simp only [hx, sizeOf, typeInfo, Sem.run_bind, run_program, Result.andThen_ok, hi, Sem.run_pure, Sem.run_ite]
  rw [if_neg (by simp [hsz, hcl])]
  simp only [Nat.add_zero, List.append_assoc] at h
  rw [show (pre ++ (us ++ post)).toArray.toList.take pre.length = pre from by simp,
    show (pre ++ (us ++ post)).toArray.toList.drop (pre.length + cs.length) = post from by
      rw [← hl]; simp [List.drop_append]] at h
  simpa using h
theorem setRow_at (w : World) (g : Nat) (cs cs' : Array Value) (T : TypeId) (hg : w.heap[g]? = some (.cells cs T (0, 0))) : (w.setRow g cs').heap[g]? = some (.cells cs' T (0, 0)) := setRow_heap w g cs cs' T _ hg
end
end Go.Rf
