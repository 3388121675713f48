/- Values held against one another part by part; keys of maps. -/
import Derived.Test.YthdddaikdiaijaaDoorRfG
import Derived.ChangeKeysEq
import Derived.DeepKeys3
namespace Go.Rf
section
variable {P : Program} {w : World} {own : Nat → Prop}
/-- Data that are held for equal are equal. -/
theorem eqL_eq {α : Type} {eq : α → α → Bool} (h : ∀ x y, eq x y = true → x = y) : ∀ {l l' : List α}, eqL eq l l' = true → l = l'
  | [], [], _ => rfl
  | x :: xs, y :: ys, hh => by
    simp only [eqL, Bool.and_eq_true] at hh
    rw [h x y hh.1, eqL_eq h hh.2]
  | [], _ :: _, hh => by cases hh
  | _ :: _, [], hh => by cases hh
theorem eqD_eq : ∀ {t : Ty} {x y : t.den}, eqD t x y = true → x = y
  | .int _, _, _, h => by simpa [eqD] using h
  | .bool, _, _, h => by simpa [eqD] using h
  | .str, x, y, h => by
    simp only [eqD, beq_toListBytes] at h
    rw [ByteArray.toList_eq, ByteArray.toList_eq] at h
    obtain ⟨⟨x⟩⟩ := x
    obtain ⟨⟨y⟩⟩ := y
    simpa using h
  | .unit, _, _, _ => rfl
  | .pair a b, x, y, h => by
    simp only [eqD, Bool.and_eq_true] at h
    exact Prod.ext (eqD_eq (t := a) h.1) (eqD_eq (t := b) h.2)
  | .agg t, x, y, h => eqD_eq (t := t) h
  | .arr _ t, x, y, h => eqL_eq (fun _ _ h => eqD_eq (t := t) h) h
  | .nilp, _, _, h => by cases h
  | .fn _, _, _, h => by cases h
  | .ifc, _, _, h => by cases h
  | .sl _ _, _, _, h => by cases h
/-- What is known of a type whose values may be held against one another. -/
structure EqAt (P : Program) (d : Nat) (T : TypeId) (t : Ty) : Prop where
  size : t.size = P.cellsOf T
  agg : isAggT P T = t.isAgg
  one : t.isAgg = false → t.size = 1
  und : ∃ u, P.underlying T = some u
  norefs : t.refs = false
  eq : ∀ (w : World) (own : Nat → Prop) (x y : t.den) (a b : Value), TV w own t x a → TV w own t y b → (Op.equalIn d T a b).run P w = .ok (eqD t x y) w
  key : ∀ (em : Bool) (w : World) (own : Nat → Prop) (x : t.den) (a : Value), TV w own t x a → (Instr.checkKey em d T a).run P w = .ok () w
theorem part_data {d : Nat} {T : TypeId} {t : Ty} (h : EqAt P d T t) {y : t.den} {pre us post : List Value} (hd : DR w own t y us) :
    ∃ v, (part T (pre ++ us ++ post).toArray pre.length).run P w = .ok v w ∧ TV w own t y v := by
  have hlen := DR.len hd
  unfold part
  rw [Sem.run_bind, run_isAgg h.und, h.agg]
  simp only [Result.andThen_ok]
  cases ha : t.isAgg with
  | true =>
    refine ⟨.agg us.toArray, ?_, ?_⟩
    · obtain ⟨i, hi⟩ := info_of_underlying h.und.choose_spec
      have : i.size = us.length := by
        rw [hlen, h.size]
        simp [Program.cellsOf, hi]
      simp [sizeOf, typeInfo, hi, this, List.extract_eq_take_drop, List.take_append]
    · unfold TV
      rw [if_pos ha]
      exact ⟨us, rfl, hd⟩
  | false =>
    have h1 := h.one ha
    rw [h1] at hlen
    obtain ⟨x, rfl⟩ : ∃ x, us = [x] := by
      match us, hlen with
      | [x], _ => exact ⟨x, rfl⟩
    refine ⟨x, ?_, ?_⟩
    · simp
    · unfold TV
      rw [if_neg (by simp [ha])]
      exact hd
theorem eq_fields {d n : Nat} : ∀ (fs : List Field) (u : Ty) (acc e : Nat), tys (tyOf P n) (fs.map (·.type)) = some u → offs P acc fs e = true → (∀ f ∈ fs, f.name ≠ "_" ∧ ∀ t, tyOf P n f.type = some t → EqAt P d f.type t) →
    u.size + acc = e ∧ u.refs = false ∧ (∀ (w : World) (own : Nat → Prop) (x y : u.den) (pa pb ca cb : List Value), pa.length = acc → pb.length = acc → DR w own u x ca → DR w own u y cb →
      (Op.eqFields d (pa ++ ca).toArray (pb ++ cb).toArray fs).run P w = .ok (eqD u x y) w) ∧
    (∀ (em : Bool) (w : World) (own : Nat → Prop) (x : u.den) (pa ca : List Value), pa.length = acc → DR w own u x ca →
      ∀ f ∈ fs, f.name ≠ "_" ∧ ∃ v, (part f.type (pa ++ ca).toArray f.offset).run P w = .ok v w ∧ (Instr.checkKey em d f.type v).run P w = .ok () w)
  | [], u, acc, e, ht, ho, _ => by
    simp only [List.map_nil, tys] at ht
    cases ht
    simp only [offs, beq_iff_eq] at ho
    exact ⟨by simpa [Ty.size] using ho, rfl, fun _ _ _ _ _ _ _ _ _ _ _ _ => by simp [Op.eqFields, eqD], fun _ _ _ _ _ _ _ _ _ h => by cases h⟩
  | [f], u, acc, e, ht, ho, hf => by
    simp only [List.map_cons, List.map_nil, tys] at ht
    simp only [offs, Bool.and_eq_true, beq_iff_eq] at ho
    obtain ⟨hn, hf⟩ := hf f (by simp)
    have k := hf u ht
    refine ⟨by rw [k.size]; omega, k.norefs, ?_, ?_⟩
    · intro w own x y pa pb ca cb ha hb hx hy
      obtain ⟨va, p1, t1⟩ := part_data k (pre := pa) (post := []) hx
      obtain ⟨vb, p2, t2⟩ := part_data k (pre := pb) (post := []) hy
      rw [List.append_nil, ha] at p1
      rw [List.append_nil, hb] at p2
      have := k.eq w own x y va vb t1 t2
      simp only [Op.eqFields, hn, ne_eq, not_false_eq_true, if_true, Sem.run_bind, ho.1, p1, p2, this, Result.andThen_ok]
      cases eqD u x y <;> simp
    · intro em w own x pa ca ha hx q hq
      obtain ⟨va, p1, t1⟩ := part_data k (pre := pa) (post := []) hx
      rw [List.append_nil, ha] at p1
      simp only [List.mem_singleton] at hq
      subst hq
      exact ⟨hn, va, by rw [ho.1]; exact p1, k.key em w own x va t1⟩
  | f :: g :: fs, u, acc, e, ht, ho, hf => by
    simp only [List.map_cons, tys] at ht
    rw [offs, Bool.and_eq_true, beq_iff_eq] at ho
    obtain ⟨hn, hf1⟩ := hf f (by simp)
    cases h1 : tyOf P n f.type with
    | none => rw [h1] at ht; cases ht
    | some t1 =>
      rw [h1] at ht
      simp only [Option.bind_some] at ht
      cases h2 : tys (tyOf P n) (g.type :: fs.map (·.type)) with
      | none => rw [h2] at ht; cases ht
      | some u2 =>
        rw [h2] at ht
        cases ht
        have k := hf1 t1 h1
        obtain ⟨i1, i0, i2, i3⟩ := eq_fields (d := d) (n := n) (g :: fs) u2 (acc + P.cellsOf f.type) e h2 ho.2 (fun q hq => hf q (by simp at hq ⊢; exact .inr hq))
        refine ⟨by rw [Ty.size, k.size]; omega, by rw [Ty.refs, k.norefs, i0]; rfl, ?_, ?_⟩
        · rintro w own x y pa pb ca cb ha hb ⟨c1, c2, rfl, hx1, hx2⟩ ⟨d1, d2, rfl, hy1, hy2⟩
          obtain ⟨va, p1, q1⟩ := part_data k (pre := pa) (post := c2) hx1
          obtain ⟨vb, p2, q2⟩ := part_data k (pre := pb) (post := d2) hy1
          rw [List.append_assoc, ha] at p1
          rw [List.append_assoc, hb] at p2
          have e1 := k.eq w own x.1 y.1 va vb q1 q2
          have e2 := i2 w own x.2 y.2 (pa ++ c1) (pb ++ d1) c2 d2 (by rw [List.length_append, ha, DR.len hx1, k.size]) (by rw [List.length_append, hb, DR.len hy1, k.size]) hx2 hy2
          rw [List.append_assoc, List.append_assoc] at e2
          rw [Op.eqFields, if_pos (by simpa using hn)]
          simp only [Sem.run_bind, ho.1, p1, p2, e1, Result.andThen_ok]
          show _ = Result.ok (eqD t1 x.1 y.1 && eqD u2 x.2 y.2) w
          cases eqD t1 x.1 y.1
          · simp
          · simpa using e2
        · rintro em w own x pa ca ha ⟨c1, c2, rfl, hx1, hx2⟩ q hq
          obtain ⟨va, p1, q1⟩ := part_data k (pre := pa) (post := c2) hx1
          rw [List.append_assoc, ha] at p1
          have e2 := i3 em w own x.2 (pa ++ c1) c2 (by rw [List.length_append, ha, DR.len hx1, k.size]) hx2
          rw [List.append_assoc] at e2
          rcases List.mem_cons.1 hq with rfl | hq
          · exact ⟨hn, va, by rw [ho.1]; exact p1, k.key em w own x.1 va q1⟩
          · exact e2 q hq
theorem eq_items {d : Nat} {E : TypeId} {t : Ty} (k : EqAt P d E t) : ∀ (m i : Nat),
    (∀ (w : World) (own : Nat → Prop) (x y : List t.den) (pa pb ca cb : List Value), x.length = m → y.length = m → pa.length = i * P.cellsOf E → pb.length = i * P.cellsOf E → Row (DR w own t) x ca → Row (DR w own t) y cb →
      (Op.eqItems d E (P.cellsOf E) (pa ++ ca).toArray (pb ++ cb).toArray (List.range' i m)).run P w = .ok (eqL (eqD t) x y) w) ∧
    (∀ (em : Bool) (w : World) (own : Nat → Prop) (x : List t.den) (pa ca : List Value), x.length = m → pa.length = i * P.cellsOf E → Row (DR w own t) x ca →
      ∀ j ∈ List.range' i m, ∃ v, (part E (pa ++ ca).toArray (j * P.cellsOf E)).run P w = .ok v w ∧ (Instr.checkKey em d E v).run P w = .ok () w)
  | 0, i => by
    refine ⟨?_, fun _ _ _ _ _ _ _ _ _ _ h => by simp at h⟩
    intro w own x y pa pb ca cb hx hy _ _ _ _
    rw [List.eq_nil_of_length_eq_zero hx, List.eq_nil_of_length_eq_zero hy]
    simp [Op.eqItems, eqL]
  | m + 1, i => by
    obtain ⟨i1, i2⟩ := eq_items k m (i + 1)
    constructor
    · intro w own x y pa pb ca cb hx hy ha hb rx ry
      match x, y, hx, hy, rx, ry with
      | x :: xs, y :: ys, hx, hy, ⟨c1, c2, e1, hx1, hx2⟩, ⟨d1, d2, e2, hy1, hy2⟩ =>
        subst e1; subst e2
        obtain ⟨va, p1, t1⟩ := part_data k (pre := pa) (post := c2) hx1
        obtain ⟨vb, p2, t2⟩ := part_data k (pre := pb) (post := d2) hy1
        rw [List.append_assoc, ha] at p1
        rw [List.append_assoc, hb] at p2
        have e1 := k.eq w own x y va vb t1 t2
        have e2 := i1 w own xs ys (pa ++ c1) (pb ++ d1) c2 d2 (by simpa using hx) (by simpa using hy) (by rw [List.length_append, ha, DR.len hx1, k.size, Nat.add_mul, Nat.one_mul]) (by rw [List.length_append, hb, DR.len hy1, k.size, Nat.add_mul, Nat.one_mul]) hx2 hy2
        rw [List.append_assoc, List.append_assoc] at e2
        rw [List.range'_succ, Op.eqItems]
        simp only [Sem.run_bind, p1, p2, e1, Result.andThen_ok]
        show _ = Result.ok (eqD t x y && eqL (eqD t) xs ys) w
        cases eqD t x y
        · simp
        · simpa using e2
    · intro em w own x pa ca hx ha rx q hq
      match x, hx, rx with
      | x :: xs, hx, ⟨c1, c2, e1, hx1, hx2⟩ =>
        subst e1
        obtain ⟨va, p1, q1⟩ := part_data k (pre := pa) (post := c2) hx1
        rw [List.append_assoc, ha] at p1
        have e2 := i2 em w own xs (pa ++ c1) c2 (by simpa using hx) (by rw [List.length_append, ha, DR.len hx1, k.size, Nat.add_mul, Nat.one_mul]) hx2
        rw [List.append_assoc] at e2
        rw [List.range'_succ] at hq
        rcases List.mem_cons.1 hq with rfl | hq
        · exact ⟨va, p1, k.key em w own x va q1⟩
        · exact e2 q hq
theorem eq_sound : ∀ (n : Nat) (T : TypeId) (t : Ty), tyOf P n T = some t → eqOK P n T = true → ∀ d, EqAt P (d + n) T t
  | 0, _, _, h, _, _ => by cases h
  | n + 1, T, t, ht, hl, d => by
    have ih := eq_sound n
    unfold tyOf at ht
    unfold eqOK at hl
    cases hu : P.underlying T with
    | none => rw [hu] at ht; cases ht
    | some u =>
      rw [hu] at ht hl
      cases u <;> simp only at ht hl <;> try (cases hl; done)
      case bool =>
        cases ht
        refine ⟨by rw [of_decide_eq_true hl]; rfl, by simp [isAggT, hu, Ty.isAgg], fun _ => rfl, ⟨_, hu⟩, rfl, ?_, ?_⟩
        · intro w own x y a b ha hb
          have ha : [a] = [.bool x] := ha
          have hb : [b] = [.bool y] := hb
          cases ha; cases hb
          simp [Op.equalIn, run_underlying hu, eqD]
        · intro em w own x a ha
          have ha : [a] = [.bool x] := ha
          cases ha
          simp [Instr.checkKey, run_underlying hu]
      case int k =>
        cases ht
        refine ⟨by rw [of_decide_eq_true hl]; rfl, by simp [isAggT, hu, Ty.isAgg], fun _ => rfl, ⟨_, hu⟩, rfl, ?_, ?_⟩
        · intro w own x y a b ha hb
          have ha : [a] = [.int k x] := ha
          have hb : [b] = [.int k y] := hb
          cases ha; cases hb
          simp [Op.equalIn, run_underlying hu, eqD]
        · intro em w own x a ha
          have ha : [a] = [.int k x] := ha
          cases ha
          simp [Instr.checkKey, run_underlying hu]
      case string =>
        cases ht
        refine ⟨by rw [of_decide_eq_true hl]; rfl, by simp [isAggT, hu, Ty.isAgg], fun _ => rfl, ⟨_, hu⟩, rfl, ?_, ?_⟩
        · intro w own x y a b ha hb
          have ha : [a] = [.string x] := ha
          have hb : [b] = [.string y] := hb
          cases ha; cases hb
          simp [Op.equalIn, run_underlying hu, eqD]
        · intro em w own x a ha
          have ha : [a] = [.string x] := ha
          cases ha
          simp [Instr.checkKey, run_underlying hu]
      case array m E =>
        simp only [Bool.and_eq_true, decide_eq_true_eq] at hl
        cases hE : tyOf P n E with
        | none => rw [hE] at ht; cases ht
        | some u =>
          rw [hE] at ht
          cases ht
          have k := ih E u hE hl.1 d
          obtain ⟨inf, hi⟩ := info_of_underlying k.und.choose_spec
          obtain ⟨i1, i2⟩ := eq_items k m 0
          refine ⟨by rw [hl.2, ← k.size]; rfl, by simp [isAggT, hu, Ty.isAgg], fun h => (by cases h), ⟨_, hu⟩, k.norefs, ?_, ?_⟩
          · rintro w own x y a b ⟨ca, rfl, hxl, rx⟩ ⟨cb, rfl, hyl, ry⟩
            have := i1 w own x y [] [] ca cb hxl hyl (by simp) (by simp) rx ry
            rw [show d + (n + 1) = (d + n) + 1 from rfl, run_equalIn_array w (d + n) ca.toArray cb.toArray hu hi, List.range_eq_range']
            exact this
          · rintro em w own x a ⟨ca, rfl, hxl, rx⟩
            have each := i2 em w own x [] ca hxl (by simp) rx
            rw [show d + (n + 1) = (d + n) + 1 from rfl, Instr.checkKey]
            simp only [Sem.run_bind, run_underlying hu, Result.andThen_ok]
            simp only [Std.Legacy.Range.forIn_eq_forIn_range', Std.Legacy.Range.size, Nat.sub_zero, Nat.add_one_sub_one, Nat.div_one]
            rw [List.nil_append] at each
            generalize List.range' 0 m = is at each
            induction is with
            | nil => simp
            | cons j is ih2 =>
              obtain ⟨v, p1, p2⟩ := each j (by simp)
              simp only [List.forIn_cons, Sem.run_bind, run_sizeOf w hi, Result.andThen_ok, p1, p2, Sem.run_pure]
              exact ih2 (fun y hy => each y (by simp [hy]))
      case struct fs =>
        simp only [Bool.and_eq_true, Bool.not_eq_true', List.all_eq_true, bne_iff_ne, ne_eq] at hl
        cases hE : tys (tyOf P n) (fs.toList.map (·.type)) with
        | none => rw [hE] at ht; cases ht
        | some u =>
          rw [hE] at ht
          cases ht
          obtain ⟨h1, h0, h2, h3⟩ := eq_fields (d := d + n) (n := n) fs.toList u 0 (P.cellsOf T) hE hl.1.2 (fun f hf => ⟨(hl.1.1 f hf).2, fun t ht => ih f.type t ht (hl.1.1 f hf).1 d⟩)
          have hfs : P.fieldsOf T = fs := by simp [Program.fieldsOf, hu]
          refine ⟨by simpa [Ty.size] using h1, by simp [isAggT, hu, Ty.isAgg], fun h => (by cases h), ⟨_, hu⟩, h0, ?_, ?_⟩
          · rintro w own x y a b ⟨ca, rfl, hx⟩ ⟨cb, rfl, hy⟩
            have := h2 w own x y [] [] ca cb rfl rfl hx hy
            rw [show d + (n + 1) = (d + n) + 1 from rfl, run_equalIn_struct w (d + n) T ca.toArray cb.toArray (by rw [hfs]; exact hu) hl.2, hfs]
            exact this
          · rintro em w own x a ⟨ca, rfl, hx⟩
            have each := h3 em w own x [] ca rfl hx
            rw [show d + (n + 1) = (d + n) + 1 from rfl, Instr.checkKey]
            simp only [Sem.run_bind, run_underlying hu, Result.andThen_ok]
            rw [← Array.forIn_toList]
            rw [List.nil_append] at each
            generalize fs.toList = L at each
            induction L with
            | nil => simp
            | cons f L ih2 =>
              obtain ⟨hn, v, p1, p2⟩ := each f (by simp)
              simp only [List.forIn_cons, Sem.run_bind, hn, ne_eq, not_false_eq_true, if_true, Result.andThen_ok, p1, p2, Sem.run_pure]
              exact ih2 (fun y hy => each y (by simp [hy]))
/-- '==' of a type's values. -/
theorem equal_data {T : TypeId} {t : Ty} (ht : tyOf P 12 T = some t) (hl : eqOK P 12 T = true) {x y : t.den} {a b : Value} (ha : TV w own t x a) (hb : TV w own t y b) : (Op.equal T a b).run P w = .ok (eqD t x y) w :=
  (eq_sound 12 T t ht hl 9988).eq w own x y a b ha hb
theorem check_data {T : TypeId} {t : Ty} (ht : tyOf P 12 T = some t) (hl : eqOK P 12 T = true) (em : Bool) {x : t.den} {a : Value} (ha : TV w own t x a) : (Instr.checkKey em 10000 T a).run P w = .ok () w :=
  (eq_sound 12 T t ht hl 9988).key em w own x a ha
/-- What a value without rows reads as, as one value. -/
theorem TV.plain {ρ : Nat → Value} {m : Mem} {t : Ty} {v : V} {x : Value} {y : t.den} (hd : dec [] t v = some y) (hv : VR w own ρ m v x) : TV w own t y x := by
  have h0 : ∀ c, v ≠ .tup c := by
    rintro c rfl
    cases t <;> simp [dec] at hd
  have h1 := V1.of_VR hv h0
  have plain : FR w own ρ m v [x] → t.isAgg = false → TV w own t y x := by
    intro hf ha
    unfold TV
    rw [ha]
    exact dec_plain hd hf
  have aggs : (∃ cs : List Value, x = .agg cs.toArray ∧ FR w own ρ m v cs) → t.isAgg = true → TV w own t y x := by
    rintro ⟨cs, e, hf⟩ ha
    unfold TV
    rw [ha]
    exact ⟨cs, e, dec_plain hd hf⟩
  cases t with
  | agg t => cases v <;> simp only [dec] at hd <;> first | (cases hd; done) | exact aggs h1 rfl
  | arr n t => cases v <;> simp only [dec] at hd <;> first | (cases hd; done) | exact aggs h1 rfl
  | int k => cases v <;> simp only [dec] at hd <;> first | (cases hd; done) | exact plain h1 rfl
  | bool => cases v <;> simp only [dec] at hd <;> first | (cases hd; done) | exact plain h1 rfl
  | str => cases v <;> simp only [dec] at hd <;> first | (cases hd; done) | exact plain h1 rfl
  | unit => cases v <;> simp only [dec] at hd <;> first | (cases hd; done) | exact plain h1 rfl
  | nilp => cases v <;> simp only [dec] at hd <;> first | (cases hd; done) | exact plain h1 rfl
  | fn f => cases v <;> simp only [dec] at hd <;> first | (cases hd; done) | exact plain h1 rfl
  | ifc => cases v <;> simp only [dec] at hd <;> first | (cases hd; done) | exact plain h1 rfl
  | pair p q => cases v <;> simp only [dec] at hd <;> first | (cases hd; done) | exact plain h1 rfl
  | sl E t => cases v <;> simp only [dec] at hd <;> first | (cases hd; done) | exact plain h1 rfl
theorem TV.enc {ρ : Nat → Value} {own : Nat → Prop} {m : Mem} {t : Ty} {y : t.den} {x : Value} (h : TV w own t y x) : V1 w own ρ m (Rf.enc t y) x := by
  unfold TV at h
  cases t with
  | agg t => obtain ⟨cs, e, hd⟩ := h; exact ⟨cs, e, FR.enc (t := .agg t) hd⟩
  | arr n t => obtain ⟨cs, e, hd⟩ := h; exact ⟨cs, e, FR.enc (t := .arr n t) hd⟩
  | int k => exact (FR.enc (t := .int k) h : FR w own ρ m (Rf.enc (.int k) y) [x])
  | bool => exact (FR.enc (t := .bool) h : FR w own ρ m (Rf.enc .bool y) [x])
  | str => exact (FR.enc (t := .str) h : FR w own ρ m (Rf.enc .str y) [x])
  | nilp => exact (FR.enc (t := .nilp) h : FR w own ρ m (Rf.enc .nilp y) [x])
  | fn f => exact (FR.enc (t := .fn f) h : FR w own ρ m (Rf.enc (.fn f) y) [x])
  | ifc => exact (FR.enc (t := .ifc) h : FR w own ρ m (Rf.enc .ifc y) [x])
  | unit => exact (FR.enc (t := .unit) h : FR w own ρ m (Rf.enc .unit y) [x])
  | pair p q => exact (FR.enc (t := .pair p q) h : FR w own ρ m (Rf.enc (.pair p q) y) [x])
  | sl E t => exact (FR.enc (t := .sl E t) h : FR w own ρ m (Rf.enc (.sl E t) y) [x])
theorem enc_noundef (t : Ty) (y : t.den) : Rf.enc t y ≠ .undef := by
  cases t <;> (intro h; cases h)
theorem enc_notup (t : Ty) (y : t.den) : ∀ c, Rf.enc t y ≠ .tup c := by
  intro c
  cases t <;> simp [Rf.enc]
theorem evEq_sound {ρ : Nat → Value} {m : Mem} {T : TypeId} {op : BinOp} {p q : Operand} {vx vy : V} {a b : Value} {r : Bool} (h : evEq P T vx vy = some r) (ha : VR w own ρ m vx a) (hb : VR w own ρ m vy b) :
    ∀ w' : World, (eqGuard op T p q a b).run P w' = .ok () w' ∧ (binOp .eql T a b).run P w' = .ok (.bool r) w' ∧ (binOp .neq T a b).run P w' = .ok (.bool (!r)) w' := by
  intro w'
  unfold evEq at h
  split at h
  · rename_i t hc ht
    simp only [Bool.and_eq_true, Bool.not_eq_true'] at hc
    obtain ⟨⟨⟨hx, hy⟩, heq⟩, hg⟩ := hc
    cases h1 : dec [] t vx with
    | none => rw [h1] at h; cases h
    | some x =>
      rw [h1] at h
      simp only [Option.bind_some] at h
      cases h2 : dec [] t vy with
      | none => rw [h2] at h; cases h
      | some y =>
        rw [h2] at h
        cases h
        have kp : ∀ {y : t.den} {x : Value}, TV w own t y x → TV w' own t y x := fun h => by
          have hr := (eq_sound 12 T t ht heq 0).norefs
          unfold TV at h ⊢
          split at h
          · rename_i ha; rw [if_pos ha]; obtain ⟨cs, e, hd⟩ := h; exact ⟨cs, e, hd.any hr⟩
          · rename_i ha; rw [if_neg ha]; exact h.any hr
        have hrun : (Op.equal T a b).run P w' = .ok (eqD t x y) w' := equal_data ht heq (kp (TV.plain h1 ha)) (kp (TV.plain h2 hb))
        have isagg : ∀ {v : V} {a : Value}, v.isAgg = true → VR w own ρ m v a → ∃ cs, a = .agg cs := by
          intro v a hv h
          cases v <;> simp [V.isAgg] at hv
          · obtain ⟨cs, e, _⟩ := h; exact ⟨_, e⟩
          · obtain ⟨cs, e, _⟩ := h; exact ⟨_, e⟩
        obtain ⟨c1, rfl⟩ := isagg hx ha
        obtain ⟨c2, rfl⟩ := isagg hy hb
        refine ⟨?_, by simp [binOp, hrun], by simp [binOp, hrun]⟩
        cases op <;> simp [eqGuard] <;> (intro h; rw [hg] at h; cases h)
  · cases h
end
end Go.Rf
