/- Maps of the call's own: made, looked up, written, entries deleted. -/
import Derived.Test.YthdddaikdiaijaaDoorRfM
import Derived.MapKept
namespace Go.Rf
open Go.RowKit (Below)
/-! ### entries -/
section
variable {P : Program} {w : World} {own : Nat → Prop} {k t : Ty}
theorem MR.at : ∀ {l : List (k.den × t.den)} {es : List MapEntry} {j : Nat} {p : k.den × t.den}, MR w own k t l es → l[j]? = some p → ∃ e, es[j]? = some e ∧ TV w own k p.1 e.key ∧ TV w own t p.2 e.val
  | [], _, _, _, _, h => by simp at h
  | q :: l, _, 0, p, ⟨e, es', h0, h1, h2, _⟩, h => by
    simp at h
    subst h; subst h0
    exact ⟨e, rfl, h1, h2⟩
  | q :: l, _, j + 1, p, ⟨e, es', h0, _, _, h3⟩, h => by
    subst h0
    obtain ⟨e', h4⟩ := MR.at h3 (by simpa using h)
    exact ⟨e', by simpa using h4⟩
theorem MR.set : ∀ {l : List (k.den × t.den)} {es : List MapEntry} {j : Nat} {p : k.den × t.den} {f : MapEntry → MapEntry}, MR w own k t l es → (∀ e, es[j]? = some e → TV w own k p.1 (f e).key ∧ TV w own t p.2 (f e).val) → MR w own k t (l.set j p) (es.modify j f)
  | [], _, _, _, _, h, _ => by rw [show _ = [] from h]; simp [MR]
  | q :: l, _, 0, p, f, ⟨e, es', h0, _, _, h3⟩, h => by
    subst h0
    obtain ⟨h4, h5⟩ := h e rfl
    exact ⟨f e, es', rfl, h4, h5, h3⟩
  | q :: l, _, j + 1, p, f, ⟨e, es', h0, h1, h2, h3⟩, h => by
    subst h0
    exact ⟨e, es'.modify j f, by simp, h1, h2, MR.set h3 (fun e he => h e (by simpa using he))⟩
theorem MR.del : ∀ {l : List (k.den × t.den)} {es : List MapEntry} (j : Nat), MR w own k t l es → MR w own k t (l.eraseIdx j) (es.eraseIdx j)
  | [], _, _, h => by rw [show _ = [] from h]; simp [MR]
  | q :: l, _, 0, ⟨e, es', h0, _, _, h3⟩ => by subst h0; exact h3
  | q :: l, _, j + 1, ⟨e, es', h0, h1, h2, h3⟩ => by
    subst h0
    exact ⟨e, es'.eraseIdx j, by simp, h1, h2, MR.del j h3⟩
theorem MR.snoc : ∀ {l : List (k.den × t.den)} {es : List MapEntry} {p : k.den × t.den} {e : MapEntry}, MR w own k t l es → TV w own k p.1 e.key → TV w own t p.2 e.val → MR w own k t (l ++ [p]) (es ++ [e])
  | [], _, p, e, h, h1, h2 => by rw [show _ = [] from h]; exact ⟨e, [], rfl, h1, h2, rfl⟩
  | q :: l, _, p, e, ⟨e0, es', h0, h3, h4, h5⟩, h1, h2 => by
    subst h0
    exact ⟨e0, es' ++ [e], rfl, h3, h4, MR.snoc h5 h1 h2⟩
/-- Where a key stands. -/
inductive Found (eq : k.den → k.den → Bool) (y : k.den) (l : List (k.den × t.den)) (es : List MapEntry) (i : Nat) : Option (Nat × Value) → Prop where
  | no (h1 : mget eq y l = none) (h2 : mdel eq y l = l) (h3 : ∀ v, mput eq y v l = l ++ [(y, v)]) : Found eq y l es i none
  | yes (j : Nat) (e : MapEntry) (p : k.den × t.den) (h1 : es[j]? = some e) (h2 : l[j]? = some p) (h3 : eq y p.1 = true) (h4 : mget eq y l = some p.2) (h5 : mdel eq y l = l.eraseIdx j)
      (h6 : ∀ v, mput eq y v l = l.set j (y, v)) : Found eq y l es i (some (i + j, e.val))
theorem Found.next {eq : k.den → k.den → Bool} {y : k.den} {l : List (k.den × t.den)} {es : List MapEntry} {i : Nat} {r : Option (Nat × Value)} {p : k.den × t.den} {e : MapEntry} (h : Found eq y l es (i + 1) r) (hp : eq y p.1 = false) :
    Found eq y (p :: l) (e :: es) i r := by
  cases h with
  | no h1 h2 h3 => exact .no (by simp [mget, hp, h1]) (by simp [mdel, hp, h2]) (fun v => by simp [mput, hp, h3])
  | yes j e' q h1 h2 h3 h4 h5 h6 =>
    rw [show i + 1 + j = i + (j + 1) by omega]
    exact .yes (j + 1) e' q (by simpa using h1) (by simpa using h2) h3 (by simp [mget, hp, h4]) (by simp [mdel, hp, h5]) (fun v => by simp [mput, hp, h6])
theorem Found.here {eq : k.den → k.den → Bool} {y : k.den} {l : List (k.den × t.den)} {es : List MapEntry} {i : Nat} {p : k.den × t.den} {e : MapEntry} (hp : eq y p.1 = true) : Found eq y (p :: l) (e :: es) i (some (i, e.val)) := by
  have := Found.yes (eq := eq) (y := y) (l := p :: l) (es := e :: es) (i := i) 0 e p rfl rfl hp (by simp [mget, hp]) (by simp [mdel, hp]) (fun v => by simp [mput, hp])
  simpa using this
theorem find_asking {K : TypeId} (ht : tyOf P 12 K = some k) (hl : eqOK P 12 K = true) {y : k.den} {a : Value} (ha : TV w own k y a) : ∀ {l : List (k.den × t.den)} {es : List MapEntry} (i : Nat), MR w own k t l es → ∃ r, (Instr.findAsking K a es i).run P w = .ok r w ∧ Found (eqD k) y l es i r
  | [], es, i, h => by
    rw [show es = [] from h]
    exact ⟨none, by simp [Instr.findAsking], .no rfl rfl fun _ => rfl⟩
  | p :: l, es, i, ⟨e, es', h0, h1, h2, h3⟩ => by
    subst h0
    have he := equal_data (w := w) (own := own) ht hl ha h1
    cases hb : eqD k y p.1 with
    | true => exact ⟨some (i, e.val), by simp [Instr.findAsking, he, hb], .here hb⟩
    | false =>
      obtain ⟨r, hr, hf⟩ := find_asking ht hl ha (i + 1) h3
      exact ⟨r, by simp [Instr.findAsking, he, hb, hr], hf.next hb⟩
theorem find_now {K : TypeId} (ht : tyOf P 12 K = some k) {y : k.den} {a : Value} (ha : TV w own k y a) {d : TypeDesc} (hd : P.underlying K = some d) (hp : (match d with | .int _ => true | .bool => true | .string => true | _ => false) = true) :
    ∀ {l : List (k.den × t.den)} {es : List MapEntry} (i : Nat), MR w own k t l es → ∃ r, Instr.findNow d a es i = some r ∧ Found (eqD k) y l es i r
  | [], es, i, h => by
    rw [show es = [] from h]
    exact ⟨none, rfl, .no rfl rfl fun _ => rfl⟩
  | p :: l, es, i, ⟨e, es', h0, h1, h2, h3⟩ => by
    subst h0
    have hs : Instr.sameNow d a e.key = some (eqD k y p.1) := by
      unfold tyOf at ht
      rw [hd] at ht
      cases d <;> simp only at hp ht <;> try (cases hp; done)
      case bool =>
        cases ht
        have ha : [a] = [.bool y] := ha
        have hb : [e.key] = [.bool p.1] := h1
        cases ha
        injection hb with hb
        rw [hb]
        rfl
      case int q =>
        cases ht
        have ha : [a] = [.int q y] := ha
        have hb : [e.key] = [.int q p.1] := h1
        cases ha
        injection hb with hb
        rw [hb]
        simp [Instr.sameNow, eqD]
      case string =>
        cases ht
        have ha : [a] = [.string y] := ha
        have hb : [e.key] = [.string p.1] := h1
        cases ha
        injection hb with hb
        rw [hb]
        simp [Instr.sameNow, eqD]
    cases hb : eqD k y p.1 with
    | true => exact ⟨some (i, e.val), by simp [Instr.findNow, hs, hb], .here hb⟩
    | false =>
      obtain ⟨r, hr, hf⟩ := find_now ht ha hd hp (i + 1) h3
      exact ⟨r, by simp [Instr.findNow, hs, hb, hr], hf.next hb⟩
theorem find_key {K : TypeId} (ht : tyOf P 12 K = some k) (hl : eqOK P 12 K = true) {y : k.den} {a : Value} (ha : TV w own k y a) {l : List (k.den × t.den)} {es : List MapEntry} (h : MR w own k t l es) : ∃ r, (Instr.findKey K a es).run P w = .ok r w ∧ Found (eqD k) y l es 0 r := by
  obtain ⟨d, hd⟩ := (eq_sound 12 K k ht hl 0).und
  by_cases hp : (match d with | .int _ => true | .bool => true | .string => true | _ => false) = true
  · obtain ⟨r, h1, h2⟩ := find_now ht ha hd hp 0 h
    exact ⟨r, MapKept.run_findKey hd h1, h2⟩
  · obtain ⟨r, h1, h2⟩ := find_asking ht hl ha 0 h
    have hw : (match P.underlying K with | some (.array _ _) | some (.struct _) => true | _ => false) = true := by
      unfold eqOK at hl
      rw [hd] at hl ⊢
      cases d <;> simp at hl hp ⊢
    exact ⟨r, by rw [run_findKey_eq w hw]; exact h1, h2⟩
end
/-! ### the operations -/
section
variable {P : Program} {C : Tab} {cx : Cx} {s s' s1 : St} {a : Act} {w w' : World} {ρ ρ' : Nat → Value} {R : Type} {out : List V → Mem → Option R} {J : Nat → St → Option R} {r : R}
  {o : Oper} {K : V → St → Tree} {N : Act → World → Prop} {Q : Exit → Act → World → Prop}
theorem mapAt_out {T : TypeId} {d : Nat} {C : (K E : TypeId) → (k t : Ty) → List (k.den × t.den) → Tree} (hr : interp out J (mapAt P s T d C) = some r) :
    ∃ K' E k t l, getM s.mem d = some (.map K' E k t l) ∧ P.underlying T = some (.map K' E) ∧ eqOK P 12 K' = true ∧ tyOf P 12 K' = some k ∧ interp out J (C K' E k t l) = some r := by
  unfold mapAt at hr
  split at hr
  · rename_i K1 E k t l hm
    split at hr
    · rename_i K2 E2 hu
      split at hr
      · rename_i hc
        obtain ⟨⟨rfl, rfl⟩, h1, h2⟩ := hc
        exact ⟨_, _, k, t, l, hm, hu, h1, h2, hr⟩
      · cases hr
    · cases hr
  · cases hr
theorem mp_is {d : Nat} {x : Value} {own : Nat → Prop} {m : Mem} (h : VR w own ρ m (.mp d) x) : ∃ r, ρ d = .map (some r) ∧ x = .map (some r) := by
  obtain ⟨r, h1, e, _⟩ : FR w own ρ m (.mp d) [x] := h
  injection e with e
  exact ⟨r, h1, e⟩
/-- A map's entries turn. -/
theorem Sim.updMap (h : Sim cx s a w ρ) {d r : Nat} {K' E : TypeId} {k t : Ty} {l l' : List (k.den × t.den)} {w2 : World} {es : Array MapEntry} {ck : Nat} {es' : Array MapEntry} {ck' : Nat} (hm : getM s.mem d = some (.map K' E k t l)) (hρ : ρ d = .map (some r))
    (_ : w.heap[r]? = some (.map es ck)) (h1 : w2.heap = w.heap) (h2 : w2.os = w.os) (h3 : w2.tape = w.tape) (h4 : w2.output = w.output) (hMR : MR w (Own cx ρ s.mem) k t l' es'.toList) :
    Sim cx { s with mem := setM s.mem d (.map K' E k t l') } a { w2 with heap := w2.heap.setIfInBounds r (.map es' ck') } ρ := by
  have hbb : hb (ρ d) = some r := by rw [hρ]; rfl
  have hge := h.ge d _ r hm hbb
  have hbase : cx.ok r := hge.1
  have other : ∀ b, b ≠ r → ({ w2 with heap := w2.heap.setIfInBounds r (.map es' ck') } : World).heap[b]? = w.heap[b]? := by
    intro b hne
    show (w2.heap.setIfInBounds r (.map es' ck'))[b]? = _
    rw [Array.getElem?_setIfInBounds_ne (fun x => hne x.symm), h1]
  have kp : ∀ e, Keeps s.mem (setM s.mem d (.map K' E k t l')) ρ ρ e := by
    intro e
    by_cases he : d = e
    · subst he
      exact ⟨rfl, fun u hu => (by rw [hm] at hu; cases hu), fun E t l hl => (by rw [hm] at hl; cases hl), fun K E k t l hl => (by rw [hm] at hl; cases hl; exact ⟨_, getM_setM hm⟩)⟩
    · exact Keeps.same rfl (getM_setM_ne he)
  have hown : ∀ k', k' < w.heap.size → Own cx ρ (setM s.mem d (.map K' E k t l')) k' → Own cx ρ s.mem k' := by
    rintro k' _ (hk | ⟨e, o2, he, hk⟩)
    · exact .inl hk
    · by_cases hed : d = e
      · subst hed; exact .inr ⟨d, _, hm, hk⟩
      · exact .inr ⟨e, o2, by rw [← getM_setM_ne hed]; exact he, hk⟩
  have hsz : w.heap.size ≤ ({ w2 with heap := w2.heap.setIfInBounds r (.map es' ck') } : World).heap.size := by simp [h1]
  refine h.upd (s' := { s with mem := setM s.mem d (.map K' E k t l') }) d (.map K' E k t l') rfl (getM_setM hm) (fun e he => getM_setM_ne (fun x => he x.symm)) (fun _ _ => rfl) ?_ ?_ ?_ ?_ (.inr ⟨⟨_, hm⟩, rfl⟩) ?_ ?_
  · exact ⟨h2, h3, h4, hsz, fun b _ hb => other b (fun e => hb (e ▸ hbase))⟩
  · intro b _ hk
    refine other b ?_
    rcases hk with hk | hk
    · rw [hm] at hk; cases hk
    · exact fun x => hk (by rw [hbb, x])
  · exact fun b hk => .inl ⟨by rw [hm]; simp, hk⟩
  · refine ⟨r, es', ck', hρ, ?_, hMR.keep ?_ hsz hown⟩
    · show (w2.heap.setIfInBounds r (.map es' ck'))[r]? = _
      rw [Array.getElem?_setIfInBounds_self_of_lt (by rw [h1]; exact hge.2)]
    · intro b _ hk
      exact other b (fun x => hk (.inr ⟨d, _, hm, by rw [hbb, x]⟩))
  · exact fun t => .inr ⟨rfl, fun _ => kp d⟩
  · exact fun e v _ _ _ => kp d
theorem makeMap_sound {T : TypeId} {rv : Option Operand} (ho : o.op = .makeMap T rv) (h : Sim cx s a w ρ) (hr : interp out J (evOp P C s o K) = some r) (hK : Owed cx a o.dst out J r K N) : o.wp P a w N Q := by
  unfold evOp at hr
  rw [ho] at hr
  simp only at hr
  unfold evMakeMap at hr
  split at hr
  · rename_i K' E d hu hd hrv
    split at hr
    · rename_i k t s2 hk ht heq hf
      have hrun : (execOp a.eval o).run P w = .ok (.value (.map (some w.heap.size))) (w.alloc (.map #[] 0)) := by
        unfold execOp
        rw [ho]
        cases rv with
        | none => simp [Instr.makeMap]
        | some x =>
          simp only [Option.map_some] at hrv
          have hx := h.ev x
          cases hv : ev s x <;> rw [hv] at hrv hx <;> simp [intOf?] at hrv
          simp [Instr.makeMap, run_underlying hu, hx.int, asInt, asIntOf]
      refine wp_pure hrun (hK _ _ _ (updH ρ (key d) (.map (some w.heap.size))) _ hr ?_ ?_)
      · refine h.new hf (key_le _) (.map K' E k t []) _ (bel_alloc _) (old_alloc _) (fun b hb2 => by cases hb2; exact ⟨Nat.le_refl _, by simp⟩) ?_
        intro ρ' m' _ _ hd' _
        exact ⟨w.heap.size, #[], 0, hd', heap_alloc_new w _, rfl⟩
      · exact (⟨w.heap.size, upd_same, rfl, _, _, _, _, _, getM_cons _ _ _⟩ : FR _ _ _ _ (.mp (key d)) [.map (some w.heap.size)])
    · cases hr
  · cases hr
theorem zero_form {E : TypeId} {v : V} {t : Ty} {y : t.den} (hz : zeroV P E = some v) (ht : tyOf P 12 E = some t) (hd : dec [] t v = some y) (hf : zeroForm P E t = true) (w : World) (own : Nat → Prop) :
    ∃ z, (zeroValue E).run P w = .ok z w ∧ TV w own t y z := by
  unfold zeroForm at hf
  split at hf
  · rename_i i hi
    obtain ⟨z, h1, _, _, h2⟩ := zero_dec hz ht hi hd
    refine ⟨z, by simp [zeroValue, typeInfo, hi, h1], ?_⟩
    have h3 := h2 w own
    rw [h1] at hf
    unfold TV
    cases hta : t.isAgg with
    | true =>
      rw [if_pos rfl]
      cases z <;> simp [hta] at hf
      exact ⟨_, by simp [Value.cells], h3⟩
    | false =>
      rw [if_neg (by simp)]
      cases z <;> simp [hta] at hf <;> exact h3
  · cases hf
theorem lookup_sound {T : TypeId} {m ix : Operand} {ok : Bool} (ho : o.op = .lookup T m ix ok) (h : Sim cx s a w ρ) (hr : interp out J (evOp P C s o K) = some r) (hK : Owed cx a o.dst out J r K N) : o.wp P a w N Q := by
  unfold evOp at hr
  rw [ho] at hr
  simp only at hr
  unfold evLookup at hr
  split at hr
  · rename_i d hv
    obtain ⟨K', E, k, t, l, hm, hu, heq, hk, hr⟩ := mapAt_out hr
    split at hr
    · rename_i y z hy hz
      split at hr
      · rename_i t' y0 ht hy0
        split at hr
        · rename_i hc
          obtain ⟨rfl, hzf⟩ := hc
          have hmv := h.ev m
          rw [hv] at hmv
          obtain ⟨r0, hρ, e0⟩ := mp_is hmv
          obtain ⟨r1, es, ck, e1, hb', hMR⟩ := h.ob d _ hm
          rw [hρ] at e1
          cases e1
          have hix := TV.plain hy (h.ev ix)
          obtain ⟨res, hfind, hF⟩ := find_key hk heq hix hMR
          obtain ⟨zv, hzr, hzt⟩ := zero_form hz ht hy0 hzf w (Own cx ρ s.mem)
          have hck := check_data (P := P) (w := w) hk heq es.isEmpty hix
          have key : ∃ v, (execOp a.eval o).run P w = .ok (.value (if ok then .tuple #[v, .bool (mget (eqD k) y l).isSome] else v)) w ∧ TV w (Own cx ρ s.mem) t' ((mget (eqD k) y l).getD y0) v := by
            have hdo : (execOp a.eval o).run P w = ((Instr.lookup T (a.eval m) (a.eval ix) ok).run P w).andThen fun v w' => .ok (.value v) w' := by
              unfold execOp
              rw [ho]
              simp
            rw [e0] at hdo
            cases hF with
            | no h1 _ _ =>
              refine ⟨zv, ?_, by rw [h1]; exact hzt⟩
              rw [hdo, h1]
              cases ok <;> simp [Instr.lookup, run_underlying hu, MapKept.run_getObj_map hb', hck, hfind, hzr]
            | yes j e p h1 h2 _ h4 _ _ =>
              obtain ⟨e', h5, _, h7⟩ := hMR.at h2
              rw [h1] at h5
              cases h5
              refine ⟨e.val, ?_, by rw [h4]; exact h7⟩
              rw [hdo, h4]
              cases ok <;> simp [Instr.lookup, run_underlying hu, MapKept.run_getObj_map hb', hck, hfind]
          obtain ⟨v, hrun, htv⟩ := key
          cases ok with
          | true =>
            refine wp_pure hrun (hK _ _ _ _ _ hr h ?_)
            exact ⟨[v, .bool (mget (eqD k) y l).isSome], by unfold tupVal; rw [isClo_pair (enc_noundef _ _)]; rfl, v, [.bool (mget (eqD k) y l).isSome], rfl, htv.enc, .bool (mget (eqD k) y l).isSome, [], rfl, rfl, rfl⟩
          | false => exact wp_pure hrun (hK _ _ _ _ _ hr h (VR.of_V1 htv.enc (enc_notup _ _)))
        · cases hr
      · cases hr
    · cases hr
  · cases hr
theorem stays (old new : Value) : ∃ v w2, (Instr.keyThatStays old new).run P w = .ok v w2 ∧ (v = old ∨ v = new) ∧ w2.heap = w.heap ∧ w2.os = w.os ∧ w2.tape = w.tape ∧ w2.output = w.output := by
  unfold Instr.keyThatStays
  split
  · exact ⟨new, w, rfl, .inr rfl, rfl, rfl, rfl, rfl⟩
  · cases hc : (choose (.extern "map.whichKeyStays" 2)).run P w with
    | halt x w2 => simp [choose, Sem.run, Question.forced, Question.cut] at hc
    | ok n w2 =>
      have hw : w2 = { w with drawn := w.drawn + 1 } := by
        simp [choose, Sem.run, Question.forced, Question.cut] at hc
        exact hc.2.symm
      refine ⟨if n = 0 then new else old, w2, ?_, ?_, by rw [hw], by rw [hw], by rw [hw], by rw [hw]⟩
      · simp [hc]
      · split
        · exact .inr rfl
        · exact .inl rfl
theorem mapUpdate_sound {T : TypeId} {m ix x : Operand} (ho : o.op = .mapUpdate T m ix x ∨ o.op = .insert T m ix x) (h : Sim cx s a w ρ) (hr : interp out J (evOp P C s o K) = some r) (hK : Owed cx a o.dst out J r K N) : o.wp P a w N Q := by
  have hr' : interp out J (evMapUpdate P s T (ev s m) (ev s ix) x K) = some r := by
    unfold evOp at hr
    rcases ho with ho | ho <;> rw [ho] at hr <;> exact hr
  have hdo : (execOp a.eval o).run P w = ((Instr.mapUpdate T (a.eval m) (a.eval ix) (a.eval x)).run P w).andThen fun _ w' => .ok .skip w' := by
    unfold execOp
    rcases ho with ho | ho <;> rw [ho] <;> simp
  unfold evMapUpdate at hr'
  split at hr'
  · rename_i d hv
    split at hr'
    · rename_i s2 hf
      obtain ⟨h2, _, hown, _⟩ := Sim.freezeAll _ h hf
      obtain ⟨K', E, k, t, l, hm, hu, heq, hk, hr⟩ := mapAt_out hr'
      split at hr
      · rename_i y z hy hz
        have hmv := h.ev m
        rw [hv] at hmv
        obtain ⟨r0, hρ, e0⟩ := mp_is hmv
        obtain ⟨r1, es, ck, e1, hb', hMR⟩ := h2.ob d _ hm
        rw [hρ] at e1
        cases e1
        have hix : TV w (Own cx ρ s2.mem) k y (a.eval ix) := (TV.plain hy (h.ev ix)).keep (fun _ _ _ => rfl) (Nat.le_refl _) (fun b _ hb2 => hown b hb2)
        have hx := TV.plain hz (h2.ev x)
        obtain ⟨res, hfind, hF⟩ := find_key hk heq hix hMR
        have hck := check_data (P := P) (w := w) hk heq false hix
        rw [e0] at hdo
        cases hF with
        | no h1 _ h3 =>
          rw [h3 z] at hr
          refine wp_skipped (w' := { w with heap := w.heap.setIfInBounds r0 (.map (es.push { key := a.eval ix, val := a.eval x, born := ck }) (ck + 1)) }) ?_ (hK _ _ _ ρ undef hr ?_ (rfl : V1 _ _ _ _ .undef undef))
          · rw [hdo]
            simp [Instr.mapUpdate, run_underlying hu, MapKept.run_getObj_map hb', hck, hfind, MapKept.run_setObj_map _ hb']
          · refine h2.updMap hm hρ hb' rfl rfl rfl rfl ?_
            rw [Array.toList_push]
            exact hMR.snoc hix hx
        | yes j e p h1 h4 h5 _ _ h6 =>
          rw [h6 z] at hr
          have hyp : p.1 = y := (eqD_eq h5).symm
          obtain ⟨e', h7, h8, h9⟩ := hMR.at h4
          rw [h1] at h7
          cases h7
          obtain ⟨kv, w2, hst, hkv, g1, g2, g3, g4⟩ := stays (P := P) (w := w) (((es[j]?).map (·.key)).getD (a.eval ix)) (a.eval ix)
          have hb2 : w2.heap[r0]? = some (.map es ck) := by rw [g1]; exact hb'
          have hes : es[j]? = some e := by rw [← Array.getElem?_toList]; exact h1
          have hkey : TV w (Own cx ρ s2.mem) k y kv := by
            rcases hkv with rfl | rfl
            · rw [hes]
              rw [← hyp]
              exact h8
            · exact hix
          refine wp_skipped (w' := { w2 with heap := w2.heap.setIfInBounds r0 (.map (es.modify j fun e => { e with key := kv, val := a.eval x }) ck) }) ?_ (hK _ _ _ ρ undef hr ?_ (rfl : V1 _ _ _ _ .undef undef))
          · rw [hdo]
            simp [Instr.mapUpdate, run_underlying hu, MapKept.run_getObj_map hb', hck, hfind, hst, MapKept.run_setObj_map _ hb2]
          · refine h2.updMap hm hρ hb' g1 g2 g3 g4 ?_
            rw [Array.toList_modify]
            exact hMR.set fun e he => ⟨hkey, hx⟩
      · cases hr
    · cases hr'
  · cases hr'
theorem delete_sound {c : Call} (ho : o.op = .call c) (hc : c.callee = .builtin .delete) (h : Sim cx s a w ρ) (hr : interp out J (evOp P C s o K) = some r) (hK : Owed cx a o.dst out J r K N) : o.wp P a w N Q := by
  unfold evOp at hr
  rw [ho] at hr
  simp only [hc] at hr
  split at hr
  · rename_i m ix T Ts hargs htys
    have ha : c.args = #[m, ix] := Array.toList_inj.1 hargs
    have ht : c.argTypes[0]? = some T := by rw [← Array.getElem?_toList, htys]; rfl
    unfold evDelete at hr
    split at hr
    · rename_i d hv
      obtain ⟨K', E, k, t, l, hm, hu, heq, hk, hr⟩ := mapAt_out hr
      split at hr
      · rename_i y hy
        have hmv := h.ev m
        rw [hv] at hmv
        obtain ⟨r0, hρ, e0⟩ := mp_is hmv
        obtain ⟨r1, es, ck, e1, hb', hMR⟩ := h.ob d _ hm
        rw [hρ] at e1
        cases e1
        have hix := TV.plain hy (h.ev ix)
        obtain ⟨res, hfind, hF⟩ := find_key hk heq hix hMR
        have hck := check_data (P := P) (w := w) hk heq es.isEmpty hix
        have run : ∀ es' w2, (Builtin.delete_ c.argTypes o.type #[a.eval m, a.eval ix]).run P w = .ok (.tuple #[]) w2 → w2 = { w with heap := w.heap.setIfInBounds r0 (.map es' ck) } → MR w (Own cx ρ s.mem) k t (mdel (eqD k) y l) es'.toList → o.wp P a w N Q := by
          intro es' w2 h1 h2 h3
          subst h2
          refine wp_pure (x := .tuple #[]) (w' := { w with heap := w.heap.setIfInBounds r0 (.map es' ck) }) ?_ (hK _ _ _ ρ _ hr (h.updMap hm hρ hb' rfl rfl rfl rfl h3) (⟨[], rfl, rfl⟩ : VR _ _ _ _ (.tup .unit) _))
          rw [run_builtin ho hc, ha]
          simp [builtin, h1]
        rw [e0] at run
        cases hF with
        | no h1 h2 _ =>
          rw [h2] at run
          refine run es _ ?_ rfl hMR
          simp [Builtin.delete_, ht, run_underlying hu, MapKept.run_getObj_map hb', hck, hfind, MapKept.run_setObj_map _ hb']
        | yes j e p h1 _ _ _ h5 _ =>
          rw [h5] at run
          refine run (es.eraseIdxIfInBounds j) _ ?_ rfl ?_
          · simp [Builtin.delete_, ht, run_underlying hu, MapKept.run_getObj_map hb', hck, hfind, MapKept.run_setObj_map _ hb']
          · rw [Array.toList_eraseIdxIfInBounds]
            exact hMR.del j
      · cases hr
    · cases hr
  · cases hr
end
end Go.Rf
