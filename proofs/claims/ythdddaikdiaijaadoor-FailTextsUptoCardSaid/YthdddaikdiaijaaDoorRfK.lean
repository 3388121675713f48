/- Pieces, lengths, least and greatest; slices that are made. -/
import Derived.Test.YthdddaikdiaijaaDoorRfJ
import Derived.MapKept
import Derived.Laws.OwnMore
namespace Go.Rf
open Go.RowKit (Below)
section
variable {P : Program} {B : Nat → Prop} {C : Tab} {cx : Cx} {s s' s1 : St} {a : Act} {w w' : World} {ρ ρ' : Nat → Value} {R : Type} {out : List V → Mem → Option R} {J : Nat → St → Option R} {r : R}
  {o : Oper} {K : V → St → Tree} {N : Act → World → Prop} {Q : Exit → Act → World → Prop}
theorem bounds_run (b : Bool) (len cap : Nat) (hlc : len ≤ cap) (lo hi : Option Value) (l h : Int) (hlo : (lo = none ∧ l = 0) ∨ ∃ k, lo = some (.int k l)) (hhi : (hi = none ∧ h = len) ∨ ∃ k, hi = some (.int k h))
    (h0 : 0 ≤ l) (h1 : l ≤ h) (h2 : h ≤ len) : (Instr.sliceBounds b len cap lo hi none).run P w = .ok (l.toNat, h.toNat, cap) w := by
  have h3 : h ≤ cap := by omega
  have h4 : 0 ≤ h := by omega
  have h5 : (h.toNat : Int) = h := Int.toNat_of_nonneg h4
  rcases hlo with ⟨rfl, rfl⟩ | ⟨k, rfl⟩ <;> rcases hhi with ⟨rfl, rfl⟩ | ⟨k', rfl⟩
  · simp [Instr.sliceBounds]
  · simp [Instr.sliceBounds, run_sliceBound _ _ _ _ _ h4 h3]
  · simp [Instr.sliceBounds, run_sliceBound _ _ _ _ _ h0 h1]
  · have h6 : l ≤ (h.toNat : Int) := by omega
    simp [Instr.sliceBounds, run_sliceBound _ _ _ _ _ h4 h3, run_sliceBound _ _ _ _ _ h0 h6]
theorem lo_out {s : St} {a : Act} {own : Nat → Prop} {m : Mem} {lo : Option Operand} {d l : Int} (hv : ∀ x, VR w own ρ m (Rf.ev s x) (a.eval x))
    (h : (match lo.map (Rf.ev s) with | none => some d | some v => intOf? v) = some l) : (lo.map a.eval = none ∧ l = d) ∨ ∃ k, lo.map a.eval = some (.int k l) := by
  cases lo with
  | none => simp at h; exact .inl ⟨rfl, h.symm⟩
  | some x =>
    simp only [Option.map_some] at h ⊢
    obtain ⟨k, hk⟩ := intOf_out h (hv x)
    exact .inr ⟨k, by rw [hk]⟩
theorem slice_sound {T : TypeId} {x : Operand} {lo hi mx : Option Operand} (ho : o.op = .slice T x lo hi mx) (h : Sim cx s a w ρ) (hr : interp out J (evOp P C s o K) = some r) (hK : Owed cx a o.dst out J r K N) : Ran P B o a w N := by
  unfold evOp at hr
  rw [ho] at hr
  simp only at hr
  split at hr
  · cases hr
  · split at hr
    · rename_i s2 hf
      obtain ⟨h2, _, _, _⟩ := Sim.freezeAll _ h hf
      have hx := h2.ev x
      have run : ∀ y, (∀ w', (Instr.sliceAt T (a.eval x) (lo.map a.eval) (hi.map a.eval) none).run P w' = .ok y w') → ∀ w', Agree B w w' → (execOp a.eval o).run P w' = .ok (.value y) w' := by
        intro y hy w' _
        have hy := hy w'
        unfold execOp
        rw [ho]
        simp [hy]
      unfold evSlice at hr
      split at hr
      · rename_i b hv
        split at hr
        · rename_i l hh hu hl hh'
          obtain ⟨hb, hr⟩ := br_true hr no_fail
          have hb' := of_decide_eq_true hb
          rw [hv] at hx
          refine ran_pure (run (.string (b.extract l.toNat hh.toNat)) fun w' => ?_) (hK _ _ _ _ _ hr h2 (vr_str _))
          have hbr := bounds_run (P := P) (w := w') false b.size b.size (Nat.le_refl _) (lo.map a.eval) (hi.map a.eval) l hh (lo_out h2.ev hl) (lo_out h2.ev hh') hb'.1 hb'.2.1 hb'.2.2
          rw [run_sliceAt_string _ _ _ _ _ _ hu, hx.str]
          simp [Instr.slice, run_underlying hu, hbr]
        · cases hr
      · rename_i E t xs hv
        split at hr
        · rename_i n l hh hes hl hh'
          split at hr
          · rename_i hn
            obtain ⟨hb, hr⟩ := br_true hr no_fail
            have hb' := of_decide_eq_true hb
            rw [hv] at hx
            obtain ⟨A, c, e, hle, hc⟩ : DR w (Own cx ρ s2.mem) (.sl E t) xs [a.eval x] := hx
            injection e with e
            obtain ⟨E2, inf, hu, hinf, hsz⟩ := elemSize_out hes
            have hue : P.underlying T = some (.slice (P.elem T)) := by unfold Program.elem; rw [hu]
            have hE : P.elem T = E2 := by rw [hu] at hue; injection hue with hue; injection hue with hue; exact hue.symm
            have hbr := fun w' => bounds_run (P := P) (w := w') true xs.length c hle (lo.map a.eval) (hi.map a.eval) l hh (lo_out h2.ev hl) (lo_out h2.ev hh') hb'.1 hb'.2.1 hb'.2.2
            refine ran_pure (run (sliced A l.toNat hh.toNat c inf.size) fun w' => ?_) (hK _ _ _ _ _ hr h2 ?_)
            · rw [run_sliceAt_slice _ _ _ _ _ _ hue, e, run_slice_any _ _ _ _ _ hue, hbr w']
              simp [sizeOf, typeInfo, hE, hinf]
            · have hlen : ((xs.take hh.toNat).drop l.toNat).length = hh.toNat - l.toNat := by simp; omega
              refine (⟨if c = l.toNat then A else A.map (·.add (l.toNat * inf.size)), c - l.toNat, ?_, ?_, ?_⟩ : DR w (Own cx ρ s2.mem) (.sl E t) _ [_])
              · rw [hlen]; rfl
              · rw [hlen]; omega
              · intro hne
                have hpos : l.toNat < hh.toNat := by
                  have : 0 < ((xs.take hh.toNat).drop l.toNat).length := List.length_pos_iff.2 hne
                  omega
                obtain ⟨b, off, css, rfl, hnb, hlt, hrow, hcs⟩ := hc (fun x => by subst x; simp at hb'; omega)
                have hcne : ¬ c = l.toNat := by omega
                have e1 : xs = xs.take hh.toNat ++ xs.drop hh.toNat := (List.take_append_drop _ _).symm
                rw [e1] at hrow
                obtain ⟨c1, c2, e2, hr1, _⟩ := hrow.split
                have e3 : xs.take hh.toNat = (xs.take hh.toNat).take l.toNat ++ (xs.take hh.toNat).drop l.toNat := (List.take_append_drop _ _).symm
                rw [e3] at hr1
                obtain ⟨c3, c4, e4, hr3, hr4⟩ := hr1.split
                have hl3 : c3.length = l.toNat * t.size := by
                  rw [Row.len (fun _ _ => DR.len (t := t)) hr3]
                  congr 1
                  simp
                  omega
                rw [e2, e4] at hcs
                have hcc := (Cells.append (Cells.append hcs).1).2
                rw [hl3] at hcc
                rw [if_neg hcne, hsz, hn]
                exact ⟨b, off + l.toNat * t.size, c4, by simp [add_at], hnb, hlt, hr4, hcc⟩
          · cases hr
        · cases hr
      · cases hr
    · cases hr
/-! ### builtins that only compute -/
theorem run_builtin {c : Call} {b : Builtin} (ho : o.op = .call c) (hc : c.callee = .builtin b) :
    (execOp a.eval o).run P w = (builtin b c.argTypes o.type (c.args.map fun | .const _ => true | _ => false) (c.args.map a.eval)).run P w := by
  unfold execOp
  rw [ho]
  simp only [resolve, hc, Sem.run_bind, Sem.run_pure, Result.andThen_ok, invoke]
  rfl
theorem len_sound {c : Call} (hE : ∀ b, ¬ B b) (ho : o.op = .call c) (hc : c.callee = .builtin .len) (h : Sim cx s a w ρ) (hr : interp out J (evOp P C s o K) = some r) (hK : Owed cx a o.dst out J r K N) : Ran P B o a w N := by
  unfold evOp at hr
  rw [ho] at hr
  simp only [hc] at hr
  split at hr
  · rename_i x T hargs htys
    split at hr
    · rename_i n hok hn
      have hx := h.ev x
      have ha : c.args = #[x] := Array.toList_inj.1 hargs
      have ht : c.argTypes = #[T] := Array.toList_inj.1 htys
      have run : (∀ w', Agree B w w' → (Builtin.len_ #[T] o.type #[a.eval x]).run P w' = .ok (.int .i64 n) w') → ∀ w', Agree B w w' → (execOp a.eval o).run P w' = .ok (.value (.int .i64 n)) w' := by
        intro hy w' hw
        have hy := hy w' hw
        rw [run_builtin ho hc, ha, ht]
        simp [builtin, hy]
      refine ran_pure (run fun w' hw => ?_) (hK _ _ _ _ _ hr h (vr_int _ _))
      unfold lenOK at hok
      split at hok
      · rename_i b hu hv
        rw [hv] at hx hn
        cases hn
        rw [hx.str]
        exact run_len_string w' T _ b hu
      · rename_i E2 E t l hu hv
        rw [hv] at hx hn
        cases hn
        obtain ⟨A, c, e, _⟩ : DR w (Own cx ρ s.mem) (.sl E t) l [a.eval x] := hx
        injection e with e
        rw [e]
        simp [Builtin.len_, run_underlying hu, goInt]
      · rename_i E hu hv
        rw [hv] at hx hn
        cases hn
        rw [hx.nils]
        simp [Builtin.len_, run_underlying hu, goInt]
      · rename_i E d hu hv
        rw [hv] at hx hn
        simp only [lenV] at hn
        split at hn
        · rename_i E' t l hm
          cases hn
          obtain ⟨e, _⟩ : [a.eval x] = [ρ d] ∧ _ := hx
          injection e with e
          obtain ⟨css, _, _, hρ⟩ := h.rows d E' t l hm
          rcases hρ with ⟨e2, e3⟩ | ⟨b, cap, e2, _⟩
          · subst e3; rw [e, e2]; simp [Builtin.len_, run_underlying hu, goInt]
          · rw [e, e2]; simp [Builtin.len_, run_underlying hu, goInt]
        · cases hn
      · rename_i n1 E n' t l hu hv
        rw [hv] at hn
        cases hn
        have : n1 = n' := by simpa using hok
        subst this
        simp [Builtin.len_, run_underlying hu, goInt]
      · rename_i K1 E1 d hu hv
        rw [hv] at hx hn
        simp only [lenV] at hn
        split at hn
        · rename_i K2 E2 k2 t2 l hm
          cases hn
          obtain ⟨r0, hr0, e, _⟩ : FR w (Own cx ρ s.mem) ρ s.mem (.mp d) [a.eval x] := hx
          injection e with e
          obtain ⟨r1, es, ck, h1, h2, h3⟩ := h.ob d _ hm
          rw [hr0] at h1
          cases h1
          have hl := h3.len
          rw [e]
          simp only [Array.length_toList] at hl
          simp [Builtin.len_, run_underlying hu, goInt, MapKept.run_getObj_map ((hw.block r0 (h.ge d _ r0 hm (by rw [hr0]; rfl)).2 (hE _)).trans h2), hl]
        · cases hn
      · cases hok
    · cases hr
  · cases hr
theorem minmax_sound {mx : Bool} (hint : ∀ q, ∀ k n, ev s q = .int k n → a.eval q = .int k n) : ∀ (ps : List Operand) (v0 : V) (x0 : Value) (v : V), (∀ own m, VR w own ρ m v0 x0) →
    (∃ k n, v0 = .int k n ∧ x0 = .int k n) → minmaxL mx v0 (ps.map (ev s)) = some v →
    ∃ y, (∀ w : World, ((ps.map a.eval).foldlM (match mx with | true => Builtin.max2 | false => Builtin.min2) x0).run P w = .ok y w) ∧ ∀ own m, VR w own ρ m v y
  | [], v0, x0, v, h0, _, hm => by
    simp only [List.map_nil, minmaxL] at hm
    cases hm
    exact ⟨x0, by simp, h0⟩
  | u :: ps, v0, x0, v, h0, ⟨k, n, e1, e2⟩, hm => by
    subst e1; subst e2
    simp only [List.map_cons, minmaxL] at hm
    cases hu : ev s u <;> rw [hu] at hm <;> simp only [minmax] at hm <;> try (cases hm; done)
    rename_i k' n'
    have hy := hint u k' n' hu
    simp only [Option.bind_some] at hm
    cases mx with
    | true =>
      obtain ⟨y, hy2, hv⟩ := minmax_sound (mx := true) hint ps _ (.int k (if n' > n then n' else n)) v (fun _ _ => vr_int _ _) ⟨_, _, rfl, rfl⟩ hm
      refine ⟨y, fun w => ?_, hv⟩
      simp only [List.map_cons, List.foldlM_cons, Sem.run_bind, hy]
      simp only [Builtin.max2, Sem.run_pure, Result.andThen_ok]
      exact hy2 w
    | false =>
      obtain ⟨y, hy2, hv⟩ := minmax_sound (mx := false) hint ps _ (.int k (if n' < n then n' else n)) v (fun _ _ => vr_int _ _) ⟨_, _, rfl, rfl⟩ hm
      refine ⟨y, fun w => ?_, hv⟩
      simp only [List.map_cons, List.foldlM_cons, Sem.run_bind, hy]
      simp only [Builtin.min2, Sem.run_pure, Result.andThen_ok]
      exact hy2 w
theorem minmax_op {mx : Bool} {c : Call} (ho : o.op = .call c) (hc : c.callee = .builtin (match mx with | true => .max | false => .min)) (h : Sim cx s a w ρ)
    (hr : interp out J (match c.args.toList.map (ev s) with
      | x :: xs => match minmaxL mx x xs with
        | some v => K v s
        | none => .fail
      | [] => .fail) = some r) (hK : Owed cx a o.dst out J r K N) : Ran P B o a w N := by
  split at hr
  · rename_i x xs hargs
    split at hr
    · rename_i v hm
      cases hl : c.args.toList with
      | nil => rw [hl] at hargs; cases hargs
      | cons p ps =>
        rw [hl] at hargs
        simp only [List.map_cons, List.cons.injEq] at hargs
        obtain ⟨rfl, rfl⟩ := hargs
        have hint : ∀ q, ∀ k n, ev s q = .int k n → a.eval q = .int k n := fun q k n e => by
          have := h.ev q
          rw [e] at this
          exact this.int
        have hargs2 : c.args.map a.eval = (a.eval p :: ps.map a.eval).toArray := by
          apply Array.toList_inj.1
          simp [hl]
        cases ps with
        | nil =>
          simp only [List.map_nil, minmaxL] at hm
          cases hm
          refine ran_pure (x := a.eval p) (fun w' _ => ?_) (hK _ _ _ _ _ hr h (h.ev p))
          rw [run_builtin ho hc, hargs2]
          cases mx <;> simp [builtin, Builtin.max_, Builtin.min_]
        | cons q qs =>
          have h0 : ∃ k n, ev s p = .int k n := by
            simp only [List.map_cons, minmaxL] at hm
            cases hp : ev s p <;> rw [hp] at hm <;> simp only [minmax] at hm <;> try (cases hm; done)
            exact ⟨_, _, rfl⟩
          obtain ⟨k, n, hp⟩ := h0
          have hxp := hint p k n hp
          rw [hp] at hm
          obtain ⟨y, hy, hv⟩ := minmax_sound (P := P) (w := w) (ρ := ρ) (mx := mx) hint (q :: qs) (.int k n) (.int k n) v (fun _ _ => vr_int _ _) ⟨_, _, rfl, rfl⟩ hm
          refine ran_pure (x := y) (fun w' _ => ?_) (hK _ _ _ _ _ hr h (hv _ _))
          rw [run_builtin ho hc, hargs2, hxp]
          cases mx with
          | true =>
            show ((Builtin.max_ _ _ (Value.int k n :: (q :: qs).map a.eval).toArray) >>= fun v => pure (Next.value v)).run P w' = _
            rw [Sem.run_bind]
            show (((List.foldlM Builtin.max2 (Value.int k n) ((q :: qs).map a.eval)).run P w')).andThen _ = _
            rw [hy]
            rfl
          | false =>
            show ((Builtin.min_ _ _ (Value.int k n :: (q :: qs).map a.eval).toArray) >>= fun v => pure (Next.value v)).run P w' = _
            rw [Sem.run_bind]
            show (((List.foldlM Builtin.min2 (Value.int k n) ((q :: qs).map a.eval)).run P w')).andThen _ = _
            rw [hy]
            rfl
    · cases hr
  · cases hr
end
end Go.Rf
