/- Fields, indexes, pieces, lengths. -/
import Derived.Test.YthdddaikdiaijaaDoorRfI
namespace Go.Rf
open Go.RowKit (Below)
section
variable {P : Program} {B : Nat → Prop} {C : Tab} {cx : Cx} {s s' s1 : St} {a : Act} {w w' : World} {ρ ρ' : Nat → Value} {R : Type} {out : List V → Mem → Option R} {J : Nat → St → Option R} {r : R}
  {o : Oper} {K : V → St → Tree} {N : Act → World → Prop} {Q : Exit → Act → World → Prop}
theorem fieldOK_out {S : TypeId} {j : Nat} {c : V} (h : fieldOK P S j c = true) : ∃ fs f i, P.underlying S = some (.struct fs) ∧ fs[j]? = some f ∧ P.info? f.type = some i ∧ f.offset = offN c j ∧ i.size ≠ 0 ∧ fieldType P S j = f.type := by
  unfold fieldOK at h
  split at h
  · rename_i fs hu
    split at h
    · rename_i f hf
      split at h
      · rename_i i hi
        simp only [Bool.and_eq_true, decide_eq_true_eq] at h
        exact ⟨fs, f, i, hu, hf, hi, h.1, h.2, by unfold fieldType; rw [hu]; simp only [hf]⟩
      · cases h
    · cases h
  · cases h
theorem fieldAddr_sound {S : TypeId} {x : Operand} {j : Nat} (ho : o.op = .fieldAddr S x j) (h : Sim cx s a w ρ) (hr : interp out J (evOp P C s o K) = some r) (hK : Owed cx a o.dst out J r K N) : Ran P B o a w N := by
  unfold evOp at hr
  rw [ho] at hr
  simp only at hr
  split at hr
  · rename_i c hd
    split at hr
    · rename_i u hok hn
      obtain ⟨fs, f, i, hu, hf, hi, hoff, hne, _⟩ := fieldOK_out hok
      have hq : PathAt [.fld j] (.agg c) (offN c j) := ⟨c, u, 0, rfl, hn, rfl, rfl⟩
      have hg : getP (.agg c) [.fld j] = some u := by simp [getP, hn]
      obtain ⟨b, off, e, hv⟩ := Sim.step' hd (h.ev x) hq hg
      refine ran_pure (x := .pointer (some ⟨b, off + offN c j, none⟩)) (fun w' _ => ?_) (hK _ _ _ _ _ hr h hv)
      unfold execOp
      rw [ho]
      simp [Instr.fieldAt, run_underlying hu, hf, Instr.sureAddr, e, fieldPlace, sizeOf, typeInfo, hi, hne, hoff, add_at]
    · cases hr
  · cases hr
theorem part_sound {own : Nat → Prop} {m : Mem} {T : TypeId} {u : V} {pre us post : List Value} (hfit : fits P T u = true) (hf : FR w own ρ m u us) :
    ∃ x, (∀ w, (part T (pre ++ us ++ post).toArray pre.length).run P w = .ok x w) ∧ VR w own ρ m u x := by
  obtain ⟨⟨i, hi, hsz⟩, hagg, hor, hu⟩ := fits_out hfit
  have hlen := hf.len
  cases ha : u.isAgg with
  | true =>
    refine ⟨.agg us.toArray, fun w => ?_, VR.of_V1 (V1.of_cells hf ha) (fits_notup hfit)⟩
    unfold part
    rw [Sem.run_bind, run_isAgg hu, hagg, ha]
    simp only [Result.andThen_ok]
    have : i.size = us.length := by rw [hsz, hlen]
    simp [sizeOf, typeInfo, hi, this, List.extract_eq_take_drop, List.take_append]
  | false =>
    have ho : u.one = true := by rcases hor with h1 | h1
                                 · rw [ha] at h1; cases h1
                                 · exact h1
    have h1 : u.size = 1 := by cases u <;> simp [V.one] at ho <;> rfl
    obtain ⟨x, rfl⟩ : ∃ x, us = [x] := by
      rw [h1] at hlen
      match us, hlen with
      | [x], _ => exact ⟨x, rfl⟩
    refine ⟨x, fun w => ?_, VR.of_V1 (V1.of_one hf ha) (fits_notup hfit)⟩
    unfold part
    rw [Sem.run_bind, run_isAgg hu, hagg, ha]
    simp
theorem field_sound {S : TypeId} {x : Operand} {j : Nat} (ho : o.op = .field S x j) (h : Sim cx s a w ρ) (hr : interp out J (evOp P C s o K) = some r) (hK : Owed cx a o.dst out J r K N) : Ran P B o a w N := by
  unfold evOp at hr
  rw [ho] at hr
  simp only at hr
  split at hr
  · rename_i c hv
    split at hr
    · rename_i u hok hn
      split at hr
      · rename_i hfit
        have hx := h.ev x
        rw [hv] at hx
        obtain ⟨cs, e, hf⟩ : ∃ cs : List Value, a.eval x = .agg cs.toArray ∧ FR w (Own cx ρ s.mem) ρ s.mem (.agg c) cs := hx
        obtain ⟨fs, f, i, hu, hfj, hi, hoff, hne, hft⟩ := fieldOK_out hok
        obtain ⟨pre, us, post, e1, hl, hfu, _⟩ := FR.nth (c := c) hf hn
        rw [hft] at hfit
        obtain ⟨y, hy, hvy⟩ := part_sound (P := P) (pre := pre) (post := post) hfit hfu
        refine ran_pure (x := y) (fun w' _ => ?_) (hK _ _ _ _ _ hr h hvy)
        have hy := hy w'
        unfold execOp
        rw [ho]
        rw [e1] at e
        simp only [Instr.field, Sem.run_bind, run_underlying hu, Result.andThen_ok, hfj, e, asAgg, Sem.run_pure, hoff, ← hl, hy]
      · cases hr
    · cases hr
  · cases hr
theorem elemSize_out {T : TypeId} {n : Nat} (h : elemSize P T = some n) : ∃ E i, P.underlying T = some (.slice E) ∧ P.info? E = some i ∧ i.size = n := by
  unfold elemSize at h
  split at h
  · rename_i E hu
    cases hi : P.info? E with
    | none => rw [hi] at h; cases h
    | some i => rw [hi] at h; cases h; exact ⟨E, i, hu, hi, rfl⟩
  · cases h
theorem run_indexAt_slice {T E : TypeId} {i : TypeInfo} (hu : P.underlying T = some (.slice E)) (hi : P.info? E = some i) (b off len cap : Nat) (k : IntKind) (n : Int) (h0 : 0 ≤ n) (h1 : n < len) :
    (Instr.indexAt T (.slice (some ⟨b, off, none⟩) len cap) (.int k n)).run P w = .ok (.pointer (some ⟨b, off + n.toNat * i.size, none⟩)) w := by
  simp [Instr.indexAt, asIntOf, run_underlying hu, sizeOf, typeInfo, hi, h0, h1, add_at]
theorem run_indexAt_array {T E : TypeId} {i : TypeInfo} {m : Nat} (hu : P.underlying T = some (.array m E)) (hi : P.info? E = some i) (b off : Nat) (k : IntKind) (n : Int) (h0 : 0 ≤ n) (h1 : n < m) :
    (Instr.indexAt T (.pointer (some ⟨b, off, none⟩)) (.int k n)).run P w = .ok (.pointer (some ⟨b, off + n.toNat * i.size, none⟩)) w := by
  simp [Instr.indexAt, asIntOf, run_underlying hu, Instr.sureAddr, sizeOf, typeInfo, hi, h0, h1, add_at]
theorem intOf_out {v : V} {i : Int} {own : Nat → Prop} {m : Mem} {x : Value} (h : intOf? v = some i) (hv : VR w own ρ m v x) : ∃ k, x = .int k i := by
  cases v <;> simp [intOf?] at h
  subst h
  exact ⟨_, hv.int⟩
/-- One cell of a slice that is read alone. -/
theorem lit_out {own : Nat → Prop} {m : Mem} {b off : Nat} {i : Int} {K : V → Tree} (hone : ∀ E t l d, getM m d = some (.row E t l) → (ρ d).oneCell' = true) : ∀ {u : V} {j : Nat} {us : List Value}, interp out J (evLit i j u K) = some r → FR w own ρ m u us → Cells w b (off + j) us →
    ∃ v x, i = (i.toNat : Int) ∧ j ≤ i.toNat ∧ i.toNat < j + u.size ∧ interp out J (K (.sptr none v)) = some r ∧ FR w own ρ m v [x] ∧ Cells w b (off + i.toNat) [x] := by
  intro u
  induction u with
  | pair p q _ ihq =>
    rintro j us hr ⟨c1, c2, e, h1, h2⟩ hc
    unfold evLit at hr
    split at hr
    · rename_i hp
      obtain ⟨x, hx, _⟩ := FR.one' hp h1 hone
      subst hx
      subst e
      have hs : p.size = 1 := by have := h1.len; simpa using this.symm
      by_cases hij : i = j
      · rw [decide_eq_true hij] at hr
        subst hij
        refine ⟨p, x, by simp, by simp, ?_, hr, h1, ?_⟩
        · simp only [V.size, hs]; simp; omega
        · exact (Cells.append (a := [x]) hc).1
      · rw [decide_eq_false hij] at hr
        obtain ⟨v, y, g1, g2, g3, g4, g5, g6⟩ := ihq hr h2 (by have := (Cells.append (a := [x]) hc).2; simpa [Nat.add_assoc] using this)
        exact ⟨v, y, g1, by omega, by simp only [V.size, hs]; omega, g4, g5, g6⟩
    · cases hr
  | _ => intro j us hr; cases hr
theorem indexAddr_sound {T : TypeId} {x ix : Operand} (ho : o.op = .indexAddr T x ix) (h : Sim cx s a w ρ) (hr : interp out J (evOp P C s o K) = some r) (hK : Owed cx a o.dst out J r K N) : Ran P B o a w N := by
  unfold evOp at hr
  rw [ho] at hr
  simp only at hr
  have hx := h.ev x
  split at hr
  · rename_i i hi
    obtain ⟨k, hk⟩ := intOf_out hi (h.ev ix)
    have run : ∀ y, (∀ w', (Instr.indexAt T (a.eval x) (.int k i)).run P w' = .ok y w') → ∀ w', Agree B w w' → (execOp a.eval o).run P w' = .ok (.value y) w' := by
      intro y hy w' _
      have hy := hy w'
      unfold execOp
      rw [ho]
      simp [hk, hy]
    split at hr
    · rename_i d hv
      split at hr
      · rename_i E t l hm
        split at hr
        · rename_i hes
          obtain ⟨hb, hr⟩ := br_true hr no_fail
          have hb' := of_decide_eq_true hb
          rw [hv] at hx
          obtain ⟨e, _⟩ : [a.eval x] = [ρ d] ∧ _ := hx
          injection e with e
          obtain ⟨E2, inf, hu, hinf, hsz⟩ := elemSize_out hes
          obtain ⟨css, hrow, hlen, hρ⟩ := h.rows d E t l hm
          rcases hρ with ⟨e2, e3⟩ | ⟨b, cap, e2, hle, hlt, hc⟩
          · subst e3; simp at hb'; omega
          · refine ran_pure (run (.pointer (some ⟨b, i.toNat * t.size + 0, none⟩)) fun w' => ?_) (hK _ _ _ _ _ hr h ?_)
            · rw [e, e2, run_indexAt_slice hu hinf b 0 _ cap k i hb'.1 hb'.2, hsz]
              simp
            · exact (⟨E, t, l, b, cap, 0, hm, e2, hb'.1, hb'.2, rfl, rfl⟩ : FR w (Own cx ρ s.mem) ρ s.mem (.eptr d i []) _)
        · cases hr
      · cases hr
    · rename_i n u hv
      split at hr
      · rename_i hes
        obtain ⟨hes, hus, hn⟩ := hes
        rw [hv] at hx
        obtain ⟨b, off, us, e, hnb, hlt, hu, hc⟩ : FR w (Own cx ρ s.mem) ρ s.mem (.sptr (some n) u) [a.eval x] := hx
        injection e with e
        obtain ⟨E2, inf, hu2, hinf, hsz⟩ := elemSize_out hes
        obtain ⟨v, y, g1, g2, g3, g4, g5, g6⟩ := lit_out (off := off) h.rowOne hr hu hc
        refine ran_pure (run (.pointer (some ⟨b, off + i.toNat, none⟩)) fun w' => ?_) (hK _ _ _ _ _ g4 h ?_)
        · rw [e, show spV (some n) b off = .slice (some ⟨b, off, none⟩) n n from rfl, run_indexAt_slice hu2 hinf b off n n k i (by omega) (by omega), hsz]
          simp
        · exact (⟨b, off + i.toNat, [y], rfl, hnb, hlt, g5, g6⟩ : FR w (Own cx ρ s.mem) ρ s.mem (.sptr none v) _)
      · cases hr
    · rename_i E t l hv
      split at hr
      · rename_i hes
        obtain ⟨hb, hr⟩ := br_true hr no_fail
        have hb' := of_decide_eq_true hb
        rw [hv] at hx
        obtain ⟨A, c, e, hle, hc⟩ : DR w (Own cx ρ s.mem) (.sl E t) l [a.eval x] := hx
        injection e with e
        obtain ⟨E2, inf, hu, hinf, hsz⟩ := elemSize_out hes
        obtain ⟨b, off, css, rfl, hnb, hlt, hrow, hcs⟩ := hc (fun x => by subst x; simp at hb'; omega)
        have hi' : i.toNat < l.length := by omega
        obtain ⟨pre, c3, post, e3, hl3, hc3, _⟩ := hrow.at (fun _ _ => DR.len (t := t)) i.toNat hi' (dflt t)
        refine ran_pure (run (.pointer (some ⟨b, off + i.toNat * t.size, none⟩)) fun w' => ?_) (hK _ _ _ _ _ hr h ?_)
        · rw [e, run_indexAt_slice hu hinf b off _ c k i hb'.1 hb'.2, hsz]
        · rw [e3] at hcs
          have hh := (Cells.append (Cells.append hcs).1).2
          rw [hl3] at hh
          exact (⟨b, off + i.toNat * t.size, c3, rfl, hnb, hlt, FR.enc hc3, hh⟩ : FR w (Own cx ρ s.mem) ρ s.mem (.sptr none _) _)
      · cases hr
    · split at hr
      · rename_i n t l n' E hd hu
        split at hr
        · rename_i inf hinf
          split at hr
          · rename_i hn
            obtain ⟨rfl, hsz⟩ := hn
            obtain ⟨hb, hr⟩ := br_true hr no_fail
            have hb' := of_decide_eq_true hb
            have hq : PathAt [.idx i] (.arr n t l) (i.toNat * t.size) := ⟨n, t, l, 0, rfl, hb'.1, hb'.2, rfl, rfl⟩
            have hg : getP (.arr n t l) [.idx i] = some (enc t (l.getD i.toNat (dflt t))) := rfl
            obtain ⟨b, off, e, hv⟩ := Sim.step' hd hx hq hg
            refine ran_pure (run _ fun w' => ?_) (hK _ _ _ _ _ hr h hv)
            rw [e, run_indexAt_array hu hinf b off k i hb'.1 hb'.2, hsz]
          · cases hr
        · cases hr
      · cases hr
  · cases hr
theorem index_sound {T : TypeId} {x ix : Operand} (ho : o.op = .index T x ix) (h : Sim cx s a w ρ) (hr : interp out J (evOp P C s o K) = some r) (hK : Owed cx a o.dst out J r K N) : Ran P B o a w N := by
  unfold evOp at hr
  rw [ho] at hr
  simp only at hr
  have hx := h.ev x
  split at hr
  · rename_i i b hi hv hu
    obtain ⟨k, hk⟩ := intOf_out hi (h.ev ix)
    obtain ⟨hb, hr⟩ := br_true hr no_fail
    have hb' := of_decide_eq_true hb
    rw [hv] at hx
    refine ran_pure (x := .int .u8 (byteAt b i)) (fun w' _ => ?_) (hK _ _ _ _ _ hr h (vr_int _ _))
    unfold execOp
    rw [ho]
    have hlt : i.toNat < b.size := by omega
    have hlt2 : i.toNat < b.data.toList.length := by simpa using hlt
    simp only [Sem.run_bind, hx.str, hk, run_index_string w' T b k i hu, hb', and_self, dite_true, Result.andThen_ok]
    unfold byteAt
    rw [getD_lt _ _ _ hlt2]
    rfl
  · rename_i i n t l n' E hi hv hu
    obtain ⟨k, hk⟩ := intOf_out hi (h.ev ix)
    split at hr
    · rename_i hfit
      split at hr
      · rename_i hn
        subst hn
        obtain ⟨hb, hr⟩ := br_true hr no_fail
        have hb' := of_decide_eq_true hb
        rw [hv] at hx
        obtain ⟨cs, e, hl, hrow⟩ : ∃ cs : List Value, a.eval x = .agg cs.toArray ∧ DR w (Own cx ρ s.mem) (.arr n t) l cs := hx
        have hi' : i.toNat < l.length := by omega
        obtain ⟨pre, c3, post, e3, hl3, hc3, _⟩ := hrow.at (fun _ _ => DR.len (t := t)) i.toNat hi' (dflt t)
        obtain ⟨y, hy, hvy⟩ := part_sound (P := P) (w := w) (ρ := ρ) (m := s.mem) (own := Own cx ρ s.mem) (pre := pre) (post := post) hfit (FR.enc hc3)
        refine ran_pure (x := y) (fun w' _ => ?_) (hK _ _ _ _ _ hr h hvy)
        have hy := hy w'
        obtain ⟨⟨inf, hinf, hsz⟩, _⟩ := fits_out hfit
        rw [size_enc] at hsz
        unfold execOp
        rw [ho]
        rw [e3] at e
        simp [Instr.index, e, hk, asIntOf, run_underlying hu, hb', sizeOf, typeInfo, hinf, hsz]
        rw [← hl3]
        rw [List.append_assoc] at hy
        rw [hy]
        rfl
      · cases hr
    · cases hr
  · cases hr
theorem extract_sound {x : Operand} {i : Nat} (ho : o.op = .extract x i) (h : Sim cx s a w ρ) (hr : interp out J (evOp P C s o K) = some r) (hK : Owed cx a o.dst out J r K N) : Ran P B o a w N := by
  unfold evOp at hr
  rw [ho] at hr
  simp only at hr
  split at hr
  · rename_i c hv
    split at hr
    · rename_i v hcl hn
      have hx := h.ev x
      rw [hv] at hx
      obtain ⟨xs, e, ht⟩ : ∃ xs : List Value, a.eval x = .tuple xs.toArray ∧ TR w (Own cx ρ s.mem) ρ s.mem c xs := by
        obtain ⟨xs, e, ht⟩ := hx
        exact ⟨xs, by rw [e]; unfold tupVal; rw [hcl], ht⟩
      have key : ∀ (c : V) (xs : List Value) (i : Nat), TR w (Own cx ρ s.mem) ρ s.mem c xs → nthC c i = some v → ∃ y, xs[i]? = some y ∧ V1 w (Own cx ρ s.mem) ρ s.mem v y := by
        intro c
        induction c with
        | pair p q _ ihq =>
          rintro xs i ⟨y, ys, rfl, h1, h2⟩ hn
          cases i with
          | zero => simp only [nthC] at hn; cases hn; exact ⟨y, rfl, h1⟩
          | succ i => simp only [nthC] at hn; exact ihq ys i h2 hn
        | unit => intro xs i _ hn; simp [nthC] at hn
        | _ => intro xs i ht; exact ht.elim
      obtain ⟨y, hy, hvy⟩ := key c xs i ht hn
      have hrun : ∀ w', Agree B w w' → (execOp a.eval o).run P w' = .ok (.value y) w' := by
        intro w' _
        unfold execOp
        rw [ho]
        simp [Instr.extract, e, hy]
      refine ran_pure hrun (hK v s w ρ y hr h ?_)
      by_cases ht : ∃ c, v = .tup c
      · obtain ⟨c, rfl⟩ := ht; exact hvy.elim
      · exact VR.of_V1 hvy (fun c e => ht ⟨c, e⟩)
    · cases hr
  · cases hr
end
end Go.Rf
