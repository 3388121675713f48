/- Structs and slices that are made. -/
import Derived.Test.YthdddaikdiaijaaDoorRfK
import Derived.Laws.MakeOwn
namespace Go.Rf
open Go.RowKit (Below)
theorem foldl_splice (off : Nat) : ∀ (vs : List Value) (k : Nat) (pre us post : List Value), us.length = vs.length → pre.length = off + k →
    (vs.zipIdx k).foldl (fun (cs : Array Value) (x : Value × Nat) => cs.setIfInBounds (off + x.2) x.1) (pre ++ us ++ post).toArray = (pre ++ vs ++ post).toArray
  | [], _, pre, us, post, hl, _ => by
    have : us = [] := List.eq_nil_of_length_eq_zero hl
    subst this
    simp
  | v :: vs, k, pre, us, post, hl, hp => by
    cases us with
    | nil => simp at hl
    | cons u us =>
      simp only [List.zipIdx_cons, List.foldl_cons]
      have e : (pre ++ u :: us ++ post).toArray.setIfInBounds (off + k) v = ((pre ++ [v]) ++ us ++ post).toArray := by
        rw [← hp]
        simp
      rw [e, foldl_splice off vs (k + 1) (pre ++ [v]) us post (by simpa using hl) (by simp [hp]; omega)]
      simp
theorem fill_step (place : Nat → Option (Nat × Nat)) {j : Nat} {x : Value} {rest : List (Nat × Value)} {pre us post cs : List Value} (hx : x.cells = cs.toArray) (hp : place j = some (pre.length, us.length)) (hl : us.length = cs.length) :
    Instr.fill place (pre ++ us ++ post).toArray ((j, x) :: rest) = Instr.fill place (pre ++ cs ++ post).toArray rest := by
  have h := foldl_splice pre.length cs 0 pre us post hl (by simp)
  rw [Instr.fill]
  simp only [hp, hx]
  rw [if_neg (by simp; omega)]
  congr 1
  rw [← h, ← Array.foldl_toList]
  simp
theorem dec_nokeys : ∀ {t : Ty} {v : V} {x : t.den}, dec [] t v = some x → rowKeys v = []
  | .pair a b, v, x, hd => by
    cases v <;> simp only [dec] at hd <;> try (cases hd; done)
    rename_i u v
    cases ha : dec [] a u with
    | none => rw [ha] at hd; cases hd
    | some y =>
      rw [ha] at hd
      simp only [Option.bind_some] at hd
      cases hb : dec [] b v with
      | none => rw [hb] at hd; cases hd
      | some z => simp [rowKeys, dec_nokeys ha, dec_nokeys hb]
  | .agg t, v, x, hd => by
    cases v <;> simp only [dec] at hd <;> try (cases hd; done)
    rename_i v
    simp only [rowKeys]
    exact dec_nokeys (t := t) hd
  | .int k, v, x, hd => by cases v <;> simp [dec] at hd <;> rfl
  | .bool, v, x, hd => by cases v <;> simp [dec] at hd <;> rfl
  | .str, v, x, hd => by cases v <;> simp [dec] at hd <;> rfl
  | .nilp, v, x, hd => by cases v <;> simp [dec] at hd <;> rfl
  | .fn _, v, x, hd => by cases v <;> simp [dec] at hd <;> rfl
  | .ifc, v, x, hd => by cases v <;> simp [dec] at hd <;> rfl
  | .unit, v, x, hd => by cases v <;> simp [dec] at hd <;> rfl
  | .arr n t, v, x, hd => by cases v <;> simp only [dec] at hd <;> first | (cases hd; done) | rfl
  | .sl E t, v, x, hd => by cases v <;> simp only [dec, getM] at hd <;> first | (cases hd; done) | rfl
section
variable {P : Program} {B : Nat → Prop} {C : Tab} {cx : Cx} {s s' s1 : St} {a : Act} {w w' : World} {ρ ρ' : Nat → Value} {R : Type} {out : List V → Mem → Option R} {J : Nat → St → Option R} {r : R}
  {o : Oper} {K : V → St → Tree} {N : Act → World → Prop} {Q : Exit → Act → World → Prop}
theorem same_known {u v : V} (h : same u v = true) : (∀ c, v ≠ .tup c) ∧ v ≠ .any ∧ v ≠ .undef := by
  refine ⟨fun c e => ?_, fun e => ?_, fun e => ?_⟩ <;> subst e <;> cases u <;> simp [same, V.one] at h
theorem dec_known {m : Mem} {t : Ty} {v : V} {x : t.den} (h : dec m t v = some x) : (∀ c, v ≠ .tup c) ∧ v ≠ .any ∧ v ≠ .undef := by
  refine ⟨fun c e => ?_, fun e => ?_, fun e => ?_⟩ <;> subst e <;> cases t <;> simp [dec] at h
theorem VR.cells2 {own : Nat → Prop} {m : Mem} {v : V} {x : Value} (hv : (∀ c, v ≠ .tup c) ∧ v ≠ .any ∧ v ≠ .undef) (h : VR w own ρ m v x) (hone : ∀ cs, FR w own ρ m v cs → ∀ u ∈ cs, u.oneCell' = true) :
    ∃ cs, x.cells = cs.toArray ∧ FR w own ρ m v cs := by
  have h1 := V1.of_VR h hv.1
  have key : FR w own ρ m v [x] → ∃ cs, x.cells = List.toArray cs ∧ FR w own ρ m v cs := by
    intro h2
    refine ⟨[x], ?_, h2⟩
    have h5 := hone _ h2 x (by simp)
    cases x <;> first | rfl | (exfalso; simp [Value.oneCell'] at h5)
  cases v
  case any => exact (hv.2.1 rfl).elim
  case undef => exact (hv.2.2 rfl).elim
  case tup c => exact (hv.1 c rfl).elim
  case agg c => obtain ⟨cs, rfl, hc⟩ := h1; exact ⟨cs, rfl, hc⟩
  case arr n t l => obtain ⟨cs, rfl, hc⟩ := h1; exact ⟨cs, rfl, hc⟩
  all_goals exact key h1
/-! ### structs -/
theorem fillF_sound {T : TypeId} {fs : Array Field} {places : List (Nat × Nat)} (hu : P.underlying T = some (.struct fs))
    (hp : fs.toList.mapM (fun f => (P.info? f.type).map fun i => (f.offset, i.size)) = some places) (h : Sim cx s a w ρ) :
    ∀ (ps : List (Nat × Operand)) (z c : V) (cs : List Value), FR w (Own cx ρ s.mem) ρ s.mem z cs → fillF P T s ps z = some c →
      ∃ cs', Instr.fill (places[·]?) cs.toArray (ps.map fun x => (x.1, a.eval x.2)) = some (List.toArray cs') ∧ FR w (Own cx ρ s.mem) ρ s.mem c cs'
  | [], z, c, cs, hz, hf => by
    simp only [fillF] at hf
    cases hf
    exact ⟨cs, rfl, hz⟩
  | (j, x) :: ps, z, c, cs, hz, hf => by
    simp only [fillF] at hf
    split at hf
    · rename_i u hn
      split at hf
      · rename_i hok
        simp only [Bool.and_eq_true] at hok
        obtain ⟨⟨h1, h2⟩, h3⟩ := hok
        cases hs : setNth z j (ev s x) with
        | none => rw [hs] at hf; cases hf
        | some z' =>
          rw [hs] at hf
          simp only [Option.bind_some] at hf
          obtain ⟨fs2, f, i, hu2, hfj, hi, hoff, _, hft⟩ := fieldOK_out h1
          rw [hu] at hu2
          cases hu2
          obtain ⟨ccs, hx, hxf⟩ := VR.cells2 (same_known h3) (h.ev x) (fun cs hf => h.ones hf)
          obtain ⟨pre, us, post, e1, hl, huf, hset⟩ := FR.nth hz hn
          have hz' := hset _ _ hxf z' hs
          obtain ⟨cs', hfill, hc⟩ := fillF_sound hu hp h ps z' c _ hz' hf
          refine ⟨cs', ?_, hc⟩
          have hlen : us.length = ccs.length := by rw [huf.len, hxf.len, same_size h3]
          have hplace : places[j]? = some (pre.length, us.length) := by
            have hfj' : fs.toList[j]? = some f := by simpa using hfj
            have hsz : i.size = us.length := by
              unfold szOK at h2
              rw [hft, hi] at h2
              have : i.size = u.size := by simpa using h2
              rw [this, huf.len]
            have key : ∀ (l : List Field) (ps : List (Nat × Nat)) (j : Nat), l.mapM (fun f => (P.info? f.type).map fun i => (f.offset, i.size)) = some ps → l[j]? = some f → ps[j]? = some (f.offset, i.size) := by
              intro l
              induction l with
              | nil => intro ps j _ hj; simp at hj
              | cons g l ih =>
                intro ps j hm hj
                simp only [List.mapM_cons, Option.bind_eq_bind, Option.pure_def] at hm
                cases hg : P.info? g.type with
                | none => simp [hg] at hm
                | some ig =>
                  cases hr : l.mapM (fun f => (P.info? f.type).map fun i => (f.offset, i.size)) with
                  | none => simp [hg, hr] at hm
                  | some rest =>
                    simp [hg, hr] at hm
                    subst hm
                    cases j with
                    | zero => simp at hj; subst hj; rw [hi] at hg; cases hg; simp
                    | succ j => simp at hj; simpa using ih rest j hr hj
            rw [key _ _ j hp hfj', hoff, hl, hsz]
          rw [e1, List.map_cons, fill_step _ hx hplace hlen]
          exact hfill
      · cases hf
    · cases hf
theorem fillL_sound {own' : Nat → Prop} {t : Ty} {m0 : Mem} (h : Sim cx s a w ρ) (hm0 : ∀ d o, getM m0 d = some o → getM s.mem d = some o) (hsub : ∀ b, own' b → Own cx ρ s.mem b) :
    ∀ (ps : List (Nat × Operand)) (l l' : List t.den) (cs : List Value), Row (DR w own' t) l cs → fillL m0 t s ps l = some l' →
      (∀ x ∈ ps, ∀ y, dec m0 t (ev s x.2) = some y → ∀ d ∈ rowKeys (ev s x.2), ∀ b, hb (ρ d) = some b → ¬ own' b) →
      ∃ cs', Instr.fill (fun i => some (i * t.size, t.size)) cs.toArray (ps.map fun x => (x.1, a.eval x.2)) = some (List.toArray cs') ∧ Row (DR w own' t) l' cs' ∧ l'.length = l.length
  | [], l, l', cs, hr, hf, _ => by
    simp only [fillL] at hf
    cases hf
    exact ⟨cs, rfl, hr, rfl⟩
  | (j, x) :: ps, l, l', cs, hr, hf, hk => by
    simp only [fillL] at hf
    split at hf
    · rename_i hj
      cases hd : dec m0 t (ev s x) with
      | none => rw [hd] at hf; cases hf
      | some y =>
        rw [hd] at hf
        simp only [Option.bind_some] at hf
        obtain ⟨ccs, hx, hxf⟩ := VR.cells2 (dec_known hd) (h.ev x) (fun cs hf => h.ones hf)
        have hy : DR w own' t y ccs := dec_sound h.rows hsub hm0 hd hxf (hk (j, x) (by simp) y hd)
        obtain ⟨pre, us, post, e1, hl, huf, hset⟩ := hr.at (fun _ _ => DR.len (t := t)) j hj (dflt t)
        obtain ⟨cs', hfill, hrow, hlen⟩ := fillL_sound h hm0 hsub ps (l.set j y) l' _ (hset y ccs hy) hf (fun x hx => hk x (by simp [hx]))
        refine ⟨cs', ?_, hrow, by simpa using hlen⟩
        rw [e1, List.map_cons, fill_step _ hx (by rw [hl, huf.len]) (by rw [huf.len, hy.len])]
        exact hfill
    · cases hf
theorem build_sound {T : TypeId} {parts : Array (Nat × Operand)} (ho : o.op = .build T parts) (h : Sim cx s a w ρ) (hr : interp out J (evOp P C s o K) = some r) (hK : Owed cx a o.dst out J r K N) : Ran P B o a w N := by
  unfold evOp at hr
  rw [ho] at hr
  simp only at hr
  have hparts : (parts.map fun x => (x.1, a.eval x.2)).toList = parts.toList.map fun x => (x.1, a.eval x.2) := by simp
  have run : ∀ cells, P.built T (parts.toList.map fun x => (x.1, a.eval x.2)) = some cells → ∀ w', Agree B w w' → (execOp a.eval o).run P w' = .ok (.value (.agg cells)) w' := by
    intro cells hc w' _
    unfold execOp
    rw [ho]
    have := run_build (P := P) w' T (parts.map fun x => (x.1, a.eval x.2)) cells (by rw [hparts]; exact hc)
    simp only [Sem.run_bind]
    rw [show (parts.map fun x => match x with | (i, x) => (i, a.eval x)) = parts.map fun x => (x.1, a.eval x.2) from rfl]
    rw [this]
    rfl
  split at hr
  · rename_i z hz
    split at hr
    · rename_i c hok hf
      obtain ⟨i, zv, t, hi, hzv, _, _, _, _, hfr⟩ := zeroV_sound hz
      unfold fieldsOK at hok
      split at hok
      · rename_i fs hu
        have hplaces : ∃ places, fs.toList.mapM (fun f => (P.info? f.type).map fun i => (f.offset, i.size)) = some places := by
          have : ∀ l : List Field, l.all (fun f => (P.info? f.type).isSome) = true → ∃ places, l.mapM (fun f => (P.info? f.type).map fun i => (f.offset, i.size)) = some places := by
            intro l
            induction l with
            | nil => intro _; exact ⟨[], rfl⟩
            | cons g l ih =>
              intro hall
              simp only [List.all_cons, Bool.and_eq_true] at hall
              obtain ⟨i, hi⟩ := Option.isSome_iff_exists.1 hall.1
              obtain ⟨ps, hps⟩ := ih hall.2
              exact ⟨(g.offset, i.size) :: ps, by simp [List.mapM_cons, hi, hps]⟩
          exact this _ hok
        obtain ⟨places, hp⟩ := hplaces
        obtain ⟨cs', hfill, hc⟩ := fillF_sound hu hp h parts.toList z c zv.cells.toList (hfr _ _ _ _) hf
        refine ran_pure (run cs'.toArray ?_) (hK _ _ _ _ _ hr h (⟨cs', rfl, hc⟩ : V1 _ _ _ _ (.agg c) _))
        unfold Program.built
        simp only [hi, hu, hzv, hp]
        simpa using hfill
      · cases hok
    · cases hr
  · rename_i n t l hz
    split at hr
    · rename_i n' E hu
      split at hr
      · rename_i inf hinf
        split at hr
        · rename_i hn
          obtain ⟨rfl, hsz⟩ := hn
          split at hr
          · rename_i l' hf
            obtain ⟨i, zv, t', hi, hzv, _, _, _, _, hfr⟩ := zeroV_sound hz
            have hd : DR w (Own cx ρ s.mem) (.arr n t) l zv.cells.toList := hfr w (Own cx ρ s.mem) ρ s.mem
            obtain ⟨cs', hfill, hrow, hlen⟩ := fillL_sound (own' := Own cx ρ s.mem) h (m0 := []) (fun d o h => by cases h) (fun _ h => h) parts.toList l l' _ hd.2 hf (fun x _ y hy d hdk => by
              rw [dec_nokeys hy] at hdk
              cases hdk)
            refine ran_pure (run cs'.toArray ?_) (hK _ _ _ _ _ hr h (⟨cs', rfl, by rw [hlen]; exact hd.1, hrow⟩ : V1 _ _ _ _ (.arr n t l') _))
            unfold Program.built
            simp only [hi, hu, hzv, hinf]
            rw [← hsz] at hfill
            simpa using hfill
          · cases hr
        · cases hr
      · cases hr
    · cases hr
  · cases hr
/-! ### rows that are made -/
theorem row_made {own : Nat → Prop} {t : Ty} {y : t.den} {z : Array Value} (hz : DR w own t y z.toList) (hs : 0 < t.size) : ∀ n : Nat, Row (DR w own t) (List.replicate n y) (madeCells z (n * t.size)).toList := by
  have hsz : z.size = t.size := by have := hz.len; simpa using this
  intro n
  induction n with
  | zero => simp [madeCells, Row]
  | succ n ih =>
    rw [List.replicate_succ']
    have e : (madeCells z ((n + 1) * t.size)).toList = (madeCells z (n * t.size)).toList ++ z.toList := by
      apply List.ext_getElem?
      intro j
      simp only [madeCells, Array.toList_map, Array.toList_range, List.getElem?_map]
      by_cases h1 : j < n * t.size
      · rw [List.getElem?_append_left (by simpa using h1)]
        have h2 : j < (n + 1) * t.size := by rw [Nat.add_mul]; omega
        simp [List.getElem?_range h1, List.getElem?_range h2]
      · rw [List.getElem?_append_right (by simpa using h1)]
        simp only [List.length_map, List.length_range]
        by_cases h2 : j < (n + 1) * t.size
        · have h3 : j - n * t.size < z.size := by rw [hsz]; rw [Nat.add_mul] at h2; omega
          rw [List.getElem?_range h2]
          have h4 : j % z.size = j - n * t.size := by
            rw [hsz]
            have h5 : j = (j - n * t.size) + t.size * n := by rw [Nat.mul_comm t.size n]; omega
            rw [hsz] at h3
            rw [h5, Nat.add_mul_mod_self_left, Nat.mod_eq_of_lt h3]
            omega
          simp [h4, h3]
        · have h3 : ¬ j - n * t.size < z.size := by rw [hsz]; rw [Nat.add_mul] at h2; omega
          rw [List.getElem?_eq_none (by simpa using h2), List.getElem?_eq_none (by simpa using h3)]
          rfl
    rw [e]
    exact Row.append ih ⟨z.toList, [], by simp, hz, rfl⟩
theorem zero_dec {T : TypeId} {v : V} {t : Ty} {i : TypeInfo} {y : t.den} (hz : zeroV P T = some v) (ht : tyOf P 12 T = some t) (hi : P.info? T = some i) (hd : dec [] t v = some y) :
    ∃ z, i.zero = some z ∧ z.cells.size = i.size ∧ i.size = t.size ∧ ∀ w own, DR w own t y z.cells.toList := by
  obtain ⟨i2, z, t2, hi2, hz2, ht2, hsz, _, hcs, hf⟩ := zeroV_sound hz
  rw [hi] at hi2
  cases hi2
  rw [tyZ_of _ _ _ ht] at ht2
  cases ht2
  exact ⟨z, hz2, hcs, hsz, fun w own => dec_plain hd (hf w own (fun _ => undef) [])⟩
theorem makeSlice_sound {T : TypeId} {n c : Operand} (ho : o.op = .makeSlice T n c) (h : Sim cx s a w ρ) (hr : interp out J (evOp P C s o K) = some r) (hK : Owed cx a o.dst out J r K N) : o.wp P a w N Q := by
  unfold evOp at hr
  rw [ho] at hr
  simp only at hr
  have hn := h.ev n
  have hc := h.ev c
  unfold evMake at hr
  split at hr
  · rename_i E k1 n1 k2 c1 d hu hvn hvc hd
    rw [hvn] at hn
    rw [hvc] at hc
    split at hr
    · rename_i t i z s2 ht hi hz hf
      split at hr
      · rename_i hcond
        obtain ⟨hsz, hpos, hby⟩ := hcond
        split at hr
        · rename_i y hd2
          obtain ⟨hb, hr⟩ := br_true hr no_fail
          have hb' := of_decide_eq_true hb
          obtain ⟨zv, hzv, hzs, _, hdr⟩ := zero_dec hz ht hi hd2
          have hcb : (i.bytes : Int) * c1 ≤ 281474976710656 := by
            have h1 := hb'.2.2
            rw [Int.mul_comm] at h1
            simp only [maxBytes] at h1
            omega
          have hcm : c1.toNat ≤ maxLen := by
            have h1 := hb'.2.2
            have h2 : c1 ≤ c1 * i.bytes := by
              have h3 : (1 : Int) ≤ i.bytes := by omega
              have h4 : 0 ≤ c1 := by omega
              calc c1 = c1 * 1 := by simp
                _ ≤ c1 * i.bytes := Int.mul_le_mul_of_nonneg_left h3 h4
            simp only [maxBytes, maxLen] at h1 ⊢
            omega
          have hcm2 : c1 ≤ 9223372036854775807 := by simp only [maxLen] at hcm; omega
          have hrun := run_make (P := P) w T E i zv hu hi hzv k1 k2 n1 c1 hb'.1 hb'.2.1 hcb hcm2
          have hlen : (List.replicate n1.toNat y).length = n1.toNat := by simp
          have hrow := row_made (hdr (w.alloc (.cells (madeCells zv.cells (c1.toNat * i.size)) E)) (fun _ => False)) hpos n1.toNat
          have htake : (madeCells zv.cells (c1.toNat * i.size)).toList.take (n1.toNat * t.size) = (madeCells zv.cells (n1.toNat * t.size)).toList := by
            have hle : n1.toNat * t.size ≤ c1.toNat * i.size := by rw [hsz]; exact Nat.mul_le_mul_right _ (by omega)
            simp only [madeCells, Array.toList_map, Array.toList_range, ← List.map_take, List.take_range]
            rw [Nat.min_eq_left hle]
          refine wp_pure (x := .slice (some ⟨w.heap.size, 0, none⟩) n1.toNat c1.toNat) (w' := w.alloc (.cells (madeCells zv.cells (c1.toNat * i.size)) E)) ?_
            (hK _ _ _ (updH ρ (key d) (.slice (some ⟨w.heap.size, 0, none⟩) n1.toNat c1.toNat)) _ hr ?_ (vr_rs upd_same (getM_cons _ _ _)))
          · unfold execOp
            rw [ho]
            simp [hn.int, hc.int, hrun]
          · refine h.new hf (key_le _) (.row E t (List.replicate n1.toNat y)) _ (bel_alloc _) (old_alloc _) (fun b hb2 => by cases hb2; exact ⟨Nat.le_refl _, by simp⟩) ?_
            intro ρ' m' _ _ hd' hown
            refine ⟨hpos, (madeCells zv.cells (n1.toNat * t.size)).toList, ⟨by simp [madeCells], .inr ⟨w.heap.size, c1.toNat, _, by rw [hd', hlen], Nat.zero_le _, heap_alloc_new w _, by rw [hlen]; omega, hcm, by simp [madeCells, hsz], by rw [hlen]; exact htake⟩⟩, ?_⟩
            exact row_made (hdr _ _) hpos n1.toNat
        · cases hr
      · cases hr
    · cases hr
  · cases hr
theorem run_buildSlice {T E : TypeId} {i : TypeInfo} {zv : Value} {n : Nat} {parts : Array (Nat × Value)} {cells : Array Value} (hu : P.underlying T = some (.slice E)) (hi : P.info? E = some i) (hzv : i.zero = some zv)
    (hcap : n * i.size ≤ 2 ^ 24) (hfill : Instr.fill (fun j => some (j * i.size, i.size)) (madeCells zv.cells (n * i.size)) parts.toList = some cells) :
    (Instr.buildSlice T n parts).run P w = .ok (.slice (some ⟨w.heap.size, 0, none⟩) n n) (w.alloc (.cells cells E)) := by
  have hc2 : ¬ (16777216 < n * i.size) := by omega
  unfold madeCells at hfill
  by_cases h0 : n * i.size = 0
  · have hfill2 : Instr.fill (fun j => some (j * i.size, i.size)) #[] parts.toList = some cells := by
      rw [h0] at hfill
      simpa [Array.range_zero'] using hfill
    simp [Instr.buildSlice, run_underlying hu, sizeOf, typeInfo, hi, h0, newRow, hfill2, Array.range_zero']
  · simp [Instr.buildSlice, run_underlying hu, sizeOf, typeInfo, hi, h0, hc2, zeroValue, hzv, newRow, hfill]
/-- The world goes on, and nothing that was there turns. -/
theorem Sim.later0 (h : Sim cx s a w ρ) (hb : Below w.heap.size w w') : Sim cx s a w' ρ :=
  h.step rfl (.of hb) (fun b hlt _ => hb.block b hlt) (fun _ _ h => h) (fun d o b hd hb' => ⟨(h.ge d o b hd hb').1, Nat.lt_of_lt_of_le (h.ge d o b hd hb').2 hb.size⟩) h.no h.ds
    (fun d o hd => (h.ob d o hd).keep rfl (fun b hb' => hb.block b (h.ge d o b hd hb').2) (fun b hlt _ => hb.block b hlt) hb.size (fun _ _ h => h) (fun _ _ e _ => Keeps.refl _ _ e)) h.pn
    (fun _ => .inr ⟨rfl, fun e _ => Keeps.refl _ _ e⟩)
theorem litV_sound (h : Sim cx s a w ρ) : ∀ (ps : List (Nat × Operand)) (j : Nat) {u : V}, litV s j ps = some u →
    ∃ cs, FR w (Own cx ρ s.mem) ρ s.mem u cs ∧ cs.length = ps.length ∧ ∀ pre post : List Value, pre.length = j → post.length = ps.length →
      Instr.fill (fun j => some (j * 1, 1)) (pre ++ post).toArray (ps.map fun x => (x.1, a.eval x.2)) = some (pre ++ cs).toArray
  | [], j, u, hl => by
    cases hl
    refine ⟨[], rfl, rfl, fun pre post _ hp => ?_⟩
    rw [List.eq_nil_of_length_eq_zero hp]
    rfl
  | (k, x) :: ps, j, u, hl => by
    unfold litV at hl
    split at hl
    · rename_i hc
      simp only [Bool.and_eq_true, decide_eq_true_eq] at hc
      obtain ⟨rfl, hone⟩ := hc
      obtain ⟨u2, hu2, rfl⟩ := Option.map_eq_some_iff.1 hl
      obtain ⟨cs, hf, hlen, hfill⟩ := litV_sound h ps (k + 1) hu2
      have hkn : (∀ c, ev s x ≠ .tup c) ∧ ev s x ≠ .any ∧ ev s x ≠ .undef := by
        refine ⟨fun c e => ?_, fun e => ?_, fun e => ?_⟩ <;> rw [e] at hone <;> simp [V.one] at hone
      obtain ⟨xs, hxs, hxf⟩ := VR.cells2 hkn (h.ev x) (fun cs hf => h.ones hf)
      obtain ⟨y, rfl, _⟩ := FR.one' hone hxf h.rowOne
      refine ⟨y :: cs, ⟨[y], cs, rfl, hxf, hf⟩, by simp [hlen], fun pre post hpre hpost => ?_⟩
      match post, hpost with
      | z :: post, hpost =>
      have h3 := hfill (pre ++ [y]) post (by simp [hpre]) (by simpa using hpost)
      simp only [List.map_cons, Instr.fill, hxs]
      have e1 : ¬ ((([y] : List Value).toArray.size ≠ 1) ∨ k * 1 + ([y] : List Value).toArray.size > (pre ++ z :: post).toArray.size) := by
        simp; omega
      simp only [List.append_assoc, List.cons_append, List.nil_append] at h3
      have e2 : (([y] : List Value).toArray.zipIdx.foldl (fun cs (c, j) => cs.setIfInBounds (k * 1 + j) c) (pre ++ z :: post).toArray) = (pre ++ y :: post).toArray := by
        subst hpre
        simp [List.zipIdx]
      rw [e2, h3]
      simp [← hpre]
    · cases hl
theorem buildSlice_below {T : TypeId} {n : Nat} {parts : Array (Nat × Operand)} (ho : o.op = .buildSlice T n parts) (h : Sim cx s a w ρ) (hr : interp out J (evOp P C s o K) = some r) (hK : Owed cx a o.dst out J r K N) : o.wp P a w (fun a' w' => Below w.heap.size w w' ∧ N a' w') Q := by
  unfold evOp at hr
  rw [ho] at hr
  simp only at hr
  split at hr
  · rename_i E d hu hd
    split at hr
    · rename_i t i z ht hi hz
      split at hr
      · rename_i hcond
        obtain ⟨hsz, hpos, hcap⟩ := hcond
        split at hr
        · rename_i y hd2
          split at hr
          · rename_i l s2 hfl hfz
            split at hr
            · rename_i s3 hf
              obtain ⟨zv, hzv, hzs, _, hdr⟩ := zero_dec hz ht hi hd2
              obtain ⟨h2, _, hown2, hks⟩ := Sim.freezeAll _ h hfz
              obtain ⟨h3, _, _, _, _, hsub⟩ := h2.free hf
              have hmade := row_made (hdr w (Own cx ρ s2.mem)) hpos n
              obtain ⟨cs', hfill, hrow, hlen⟩ := fillL_sound (own' := Own cx ρ s2.mem) h (m0 := s.mem) (fun _ _ h => h) hown2 parts.toList (List.replicate n y) l _ hmade hfl
                (fun x hx z hz k hk b hb' ho => by
                  have hmem : k ∈ keysOf s (parts.toList.map (·.2)) := by
                    unfold keysOf
                    exact List.mem_flatMap.2 ⟨x.2, List.mem_map.2 ⟨x, hx, rfl⟩, hk⟩
                  obtain ⟨ccs, _, hxf⟩ := VR.cells2 (dec_known hz) (h.ev x.2) (fun cs hf => h.ones hf)
                  have key : ∀ {v : V} {cs : List Value}, FR w (Own cx ρ s.mem) ρ s.mem v cs → k ∈ rowKeys v → ∃ E t l, getM s.mem k = some (.row E t l) := by
                    intro v
                    induction v with
                    | pair p q ihp ihq =>
                      rintro cs ⟨_, _, _, h1, h2⟩ hm
                      simp only [rowKeys, List.mem_append] at hm
                      exact hm.elim (ihp h1) (ihq h2)
                    | agg p ih => intro cs h1 hm; exact ih h1 hm
                    | rs e => rintro cs ⟨_, h1⟩ hm; simp [rowKeys] at hm; subst hm; exact h1
                    | tup p _ => intro cs h1; exact h1.elim
                    | _ => intro cs _ hm; simp [rowKeys] at hm
                  obtain ⟨E', t', l', hg⟩ := key hxf hk
                  exact hks k hmem E' t' l' hg b hb' ho)
              have hll : l.length = n := by rw [hlen]; simp
              have hmx : n ≤ maxLen := by
                have : n ≤ n * t.size := Nat.le_mul_of_pos_right _ hpos
                simp only [maxLen]
                omega
              refine wp_pure (x := .slice (some ⟨w.heap.size, 0, none⟩) n n) (w' := w.alloc (.cells cs'.toArray E)) ?_
                ⟨(Below.refl _ w).alloc (Nat.le_refl _) _, hK _ _ _ (updH ρ (key d) (.slice (some ⟨w.heap.size, 0, none⟩) n n)) _ hr ?_ (vr_rs upd_same (getM_cons _ _ _))⟩
              · unfold execOp
                rw [ho]
                have hfill2 : Instr.fill (fun j => some (j * i.size, i.size)) (madeCells zv.cells (n * i.size)) ((parts.map fun x => (x.1, a.eval x.2)).toList) = some cs'.toArray := by
                  rw [hsz, show (parts.map fun x => (x.1, a.eval x.2)).toList = parts.toList.map fun x => (x.1, a.eval x.2) from by simp]
                  simpa using hfill
                have hrun := run_buildSlice (P := P) (w := w) hu hi hzv (by rw [hsz]; exact hcap) hfill2
                simp only [Sem.run_bind]
                rw [show (parts.map fun x => match x with | (i, x) => (i, a.eval x)) = parts.map fun x => (x.1, a.eval x.2) from rfl, hrun]
                rfl
              · refine h2.new hf (key_le _) (.row E t l) _ (bel_alloc _) (old_alloc _) (fun b hb2 => by cases hb2; exact ⟨Nat.le_refl _, by simp⟩) ?_
                intro ρ' m' hown _ hd' _
                have hrow2 : Row (DR (w.alloc (.cells cs'.toArray E)) (Own cx ρ' m') t) l cs' := by
                  refine hrow.mono fun _ _ hx => DR.keep (fun b hlt _ => old_alloc _ b hlt) (by simp) ?_ hx
                  intro b hlt hb2
                  rcases hown b hlt hb2 with h5 | ⟨e, o2, he, h5⟩
                  · exact .inl h5
                  · exact .inr ⟨e, o2, hsub e o2 he, h5⟩
                have hcl : cs'.length = l.length * t.size := Row.len (fun _ _ => DR.len (t := t)) hrow2
                exact ⟨hpos, cs', ⟨hcl, .inr ⟨w.heap.size, n, _, by rw [hd', hll], Nat.zero_le _, heap_alloc_new w _, by omega, hmx, by simp [hcl, hll], by rw [hll]; exact List.take_of_length_le (by rw [hcl, hll]; exact Nat.le_refl _)⟩⟩, hrow2⟩
            · cases hr
          · cases hr
        · cases hr
      · cases hr
    · unfold evLits at hr
      split at hr
      · rename_i i u hi hl
        split at hr
        · rename_i z hz
          split at hr
          · rename_i hcond
            obtain ⟨hsz, hzc, hlen, hn0, hn⟩ := hcond
            obtain ⟨cs, hf, hcl, hfill⟩ := litV_sound h parts.toList 0 hl
            have hbel : Below w.heap.size w (w.alloc (.cells cs.toArray E)) := (Below.refl _ w).alloc (Nat.le_refl _) _
            have hnown : ¬ Own cx ρ s.mem w.heap.size := by
              rintro (hx | ⟨d, o, hd, hb'⟩)
              · exact Nat.lt_irrefl _ (h.fo _ hx)
              · exact Nat.lt_irrefl _ (h.ge d o _ hd hb').2
            refine wp_pure (x := .slice (some ⟨w.heap.size, 0, none⟩) n n) (w' := w.alloc (.cells cs.toArray E)) ?_
              ⟨hbel, hK _ _ _ ρ _ hr (h.later0 hbel) (show FR (w.alloc (.cells cs.toArray E)) (Own cx ρ s.mem) ρ s.mem (.sptr (some n) u) [_] from
                ⟨w.heap.size, 0, cs, rfl, hnown, by simp, FR.keep (fun b hlt _ => old_alloc _ b hlt) (by simp) (fun _ _ h => h) (fun e _ => Keeps.refl _ _ e) hf, ?_⟩)⟩
            · unfold execOp
              rw [ho]
              have hfill2 : Instr.fill (fun j => some (j * i.size, i.size)) (madeCells z.cells (n * i.size)) ((parts.map fun x => (x.1, a.eval x.2)).toList) = some cs.toArray := by
                rw [hsz, show (parts.map fun x => (x.1, a.eval x.2)).toList = parts.toList.map fun x => (x.1, a.eval x.2) from by simp]
                have := hfill [] (madeCells z.cells (n * 1)).toList rfl (by simp [madeCells, hlen])
                simpa using this
              have hrun := run_buildSlice (P := P) (w := w) hu hi hz (by rw [hsz]; omega) hfill2
              simp only [Sem.run_bind]
              rw [show (parts.map fun x => match x with | (i, x) => (i, a.eval x)) = parts.map fun x => (x.1, a.eval x.2) from rfl, hrun]
              rfl
            · have := cells_of_row (w := w.alloc (.cells cs.toArray E)) (b := w.heap.size) (pre := []) (us := cs) (post := []) (by simpa using heap_alloc_new w _)
              simpa using this
          · cases hr
        · cases hr
      · cases hr
    · cases hr
  · cases hr
theorem buildSlice_sound {T : TypeId} {n : Nat} {parts : Array (Nat × Operand)} (ho : o.op = .buildSlice T n parts) (h : Sim cx s a w ρ) (hr : interp out J (evOp P C s o K) = some r) (hK : Owed cx a o.dst out J r K N) : o.wp P a w N Q :=
  Oper.wp_mono (fun _ _ h => h.2) (buildSlice_below ho h hr hK)
end
end Go.Rf
