/- Memory: variables, loads, stores, fields, indexes, pieces. -/
import Derived.Test.YthdddaikdiaijaaDoorRfH
namespace Go.Rf
open Go.RowKit (Below)
section
variable {P : Program} {B : Nat → Prop} {C : Tab} {cx : Cx} {s s' s1 : St} {a : Act} {w w' : World} {ρ ρ' : Nat → Value} {R : Type} {out : List V → Mem → Option R} {J : Nat → St → Option R} {r : R}
  {o : Oper} {K : V → St → Tree} {N : Act → World → Prop} {Q : Exit → Act → World → Prop}
theorem Sim.ones (h : Sim cx s a w ρ) {v : V} {cs : List Value} (hf : FR w (Own cx ρ s.mem) ρ s.mem v cs) : ∀ u ∈ cs, u.oneCell' = true :=
  hf.ones (fun E t l d hd => h.rowOne E t l d hd)
theorem has_false_of_FR {own : Nat → Prop} {m : Mem} {d : Nat} {v : V} {cs : List Value} (h : FR w own ρ m v cs) (hn : getM m d = none) : v.has d = false := by
  cases hh : v.has d with
  | false => rfl
  | true => exact (h.has hh hn).elim
theorem zero_nohas {T : TypeId} {v : V} (hz : zeroV P T = some v) (d : Nat) : v.has d = false := by
  obtain ⟨i, z, t, _, _, _, _, _, _, hf⟩ := zeroV_sound hz
  exact has_false_of_FR (hf default (fun _ => False) (fun _ => undef) []) rfl
theorem alloc_sound {T : TypeId} (ho : o.op = .alloc T) (h : Sim cx s a w ρ) (hr : interp out J (evOp P C s o K) = some r) (hK : Owed cx a o.dst out J r K N) : o.wp P a w N Q := by
  unfold evOp at hr
  rw [ho] at hr
  simp only at hr
  split at hr
  · rename_i d z hd hz
    split at hr
    · rename_i s2 hf
      obtain ⟨i, zv, t, hi, hzv, _, _, _, _, hfr⟩ := zeroV_sound hz
      have hrun : (execOp a.eval o).run P w = .ok (.value (.pointer (some ⟨w.heap.size, 0, none⟩))) (w.alloc (.cells zv.cells T)) := by
        unfold execOp
        rw [ho]
        simp [Instr.alloc, zeroValue, typeInfo, hi, hzv, newVar, newRow]
      refine wp_pure hrun (hK _ _ _ _ _ hr (h.newBox hf (key_le _) (x := zv) (cs := zv.cells.toList) (by simp) (hfr _ _ _ _).tagZ (has_tagZ (zero_nohas hz _)) (tag_tagZ (zeroV_tag hz))) (vr_ptr upd_same (getM_cons _ _ _)))
    · cases hr
  · cases hr
theorem box_sound {T : TypeId} {x : Operand} (ho : o.op = .box T x) (h : Sim cx s a w ρ) (hr : interp out J (evOp P C s o K) = some r) (hK : Owed cx a o.dst out J r K N) : o.wp P a w N Q := by
  unfold evOp at hr
  rw [ho] at hr
  simp only at hr
  split at hr
  · rename_i d hd
    split at hr
    · rename_i s2 hf
      split at hr
      · rename_i hfit
        obtain ⟨hfit, htg⟩ := hfit
        have h2 := (h.free hf).1
        have hx := h2.ev x
        obtain ⟨cs, hc, hfr⟩ := VR.cells hfit hx (fun cs hf => h2.ones hf)
        have hrun : (execOp a.eval o).run P w = .ok (.value (.pointer (some ⟨w.heap.size, 0, none⟩))) (w.alloc (.cells (a.eval x).cells T)) := by
          unfold execOp
          rw [ho]
          simp [Instr.box, newVar, newRow]
        exact wp_pure hrun (hK _ _ _ _ _ hr (h.newBox hf (key_le _) hc hfr (free_any h hf x) (fun U hU => by rw [htg] at hU; cases hU)) (vr_ptr upd_same (getM_cons _ _ _)))
      · cases hr
    · cases hr
  · cases hr
theorem load_op {T : TypeId} {x : Operand} (hL : ∀ ad, a.eval x = .pointer (some ad) → ¬ B ad.block) (ho : o.op = .load T x) (h : Sim cx s a w ρ) (hr : interp out J (evOp P C s o K) = some r) (hK : Owed cx a o.dst out J r K N) : Ran P B o a w N := by
  unfold evOp at hr
  rw [ho] at hr
  simp only at hr
  split at hr
  · rename_i u hu
    split at hr
    · rename_i hfit
      obtain ⟨b, off, us, e, hus, hc⟩ := h.deref hu (h.ev x)
      obtain ⟨y, hy, hv⟩ := load_sound (P := P) (b := b) (off := off) hfit hus
      have hrun : ∀ w', Agree B w w' → (execOp a.eval o).run P w' = .ok (.value y) w' := by
        intro w' hw
        have hy := hy w' (hc.later hw (hL _ e))
        unfold execOp
        rw [ho]
        simp [Instr.loadAt, Instr.sureAddr, e, hy]
      exact ran_pure hrun (hK _ _ _ _ _ hr h hv)
    · cases hr
  · cases hr
theorem Sim.freezeAll : ∀ (ks : List Nat) {s s' : St}, Sim cx s a w ρ → s.freezeAll ks = some s' → Sim cx s' a w ρ ∧ s'.n = s.n ∧ (∀ b, Own cx ρ s'.mem b → Own cx ρ s.mem b) ∧
    ∀ k ∈ ks, ∀ E t l, getM s.mem k = some (.row E t l) → ∀ b, hb (ρ k) = some b → ¬ Own cx ρ s'.mem b
  | [], s, s', h, hf => by
    simp only [St.freezeAll] at hf
    cases hf
    exact ⟨h, rfl, fun _ h => h, fun _ hk => by cases hk⟩
  | d :: ds, s, s', h, hf => by
    simp only [St.freezeAll] at hf
    split at hf
    · rename_i E t l hg
      cases hs : s.freeze d with
      | none => rw [hs] at hf; cases hf
      | some s1 =>
        rw [hs] at hf
        simp only [Option.bind_some] at hf
        obtain ⟨h1, hn, _, _, hrow, hown⟩ := h.freeze hs
        obtain ⟨h2, hn2, hown2, hks⟩ := Sim.freezeAll ds h1 hf
        refine ⟨h2, hn2.trans hn, fun b hb => (hown b (hown2 b hb)).1, ?_⟩
        intro k hk E' t' l' hg' b hb' ho
        by_cases hkd : k = d
        · subst hkd
          exact (hown b (hown2 b ho)).2 b hb' rfl
        · rcases List.mem_cons.1 hk with e | hk
          · exact hkd e
          · exact hks k hk E' t' l' (hrow k E' t' l' hkd hg') b hb' ho
    · rename_i hno
      obtain ⟨h2, hn2, hown2, hks⟩ := Sim.freezeAll ds h hf
      refine ⟨h2, hn2, hown2, ?_⟩
      intro k hk E' t' l' hg' b hb'
      rcases List.mem_cons.1 hk with e | hk
      · subst e; exact (hno _ _ _ hg').elim
      · exact hks k hk E' t' l' hg' b hb'
theorem bel_setRow {ok : Nat → Prop} {g : Nat} (h : ok g) (cs : Array Value) : Bel ok w (w.setRow g cs) :=
  ⟨rfl, rfl, rfl, by simp, fun k _ hk => setRow_other w g k cs (fun e => hk (e ▸ h))⟩
/-- A store. -/
theorem Sim.storeTo (h : Sim cx s a w ρ) {T : TypeId} {va vx : V} {xa xx : Value} (ha : VR w (Own cx ρ s.mem) ρ s.mem va xa) (hx : VR w (Own cx ρ s.mem) ρ s.mem vx xx)
    (hfit : fits P T vx = true) (hst : Rf.storeTo s va vx = some s') : ∃ ad w', xa = .pointer (some ad) ∧ (storeVar T ad xx).run P w = .ok () w' ∧ Sim cx s' a w' ρ ∧ (∀ k, k ≠ ad.block → w'.heap[k]? = w.heap[k]?) ∧ w'.heap.size = w.heap.size := by
  obtain ⟨cs, hc, hcf⟩ := VR.cells hfit hx (fun cs hf => h.ones hf)
  have hones := h.ones hcf
  unfold Rf.storeTo at hst
  split at hst
  · rename_i d p
    cases hm : getM s.mem d with
    | none => rw [hm] at hst; cases hst
    | some ob =>
      rw [hm] at hst
      cases ob with
      | row _ _ _ => cases hst
      | map _ _ _ _ _ => cases hst
      | box v =>
        simp only at hst
        cases hs : setP [] v p vx with
        | none => rw [hs] at hst; cases hst
        | some v' =>
          rw [hs] at hst
          cases hst
          obtain ⟨b, off, v2, hρ, hm2, hp, e⟩ : FR w (Own cx ρ s.mem) ρ s.mem (.ptr d p) [xa] := ha
          rw [hm] at hm2
          cases hm2
          injection e with e
          obtain ⟨b', ccs, E, h1, h2, h3, hT⟩ := h.ob d _ hm
          rw [hρ] at h1
          cases h1
          obtain ⟨⟨pre, us, post, e1, hl, hl2, hf2⟩, hsame⟩ := FR.setP p h3 hcf hp hs
          rw [e1] at h2
          refine ⟨⟨b, off, none⟩, w.setRow b (pre ++ cs ++ post).toArray, e, ?_, ?_, fun k hk => setRow_other w b k _ (by first | exact hk | exact fun x => hk x.symm), by simp⟩
          · rw [← hl]; exact store_sound hfit hc hcf hones h2 hl2
          · have hbb : hb (ρ d) = some b := by rw [hρ]; rfl
            have hge := h.ge d _ b hm hbb
            have hbase : cx.ok b := hge.1
            have kp : ∀ e, Keeps s.mem (setM s.mem d (.box v')) ρ ρ e := by
              intro e
              by_cases he : d = e
              · subst he
                exact ⟨rfl, fun u hu => (by rw [hm] at hu; cases hu; exact ⟨v', getM_setM hm, fun q o' hq => same_path q hsame hq⟩), fun E t l hl => (by rw [hm] at hl; cases hl), fun K E k t l hl => (by rw [hm] at hl; cases hl)⟩
              · exact Keeps.same rfl (getM_setM_ne he)
            refine h.upd (s' := { s with mem := setM s.mem d (.box v') }) d (.box v') rfl (getM_setM hm) (fun e he => getM_setM_ne (fun x => he x.symm)) (fun _ _ => rfl) (bel_setRow hbase _) ?_ ?_ ?_ (.inr ⟨⟨_, hm⟩, rfl⟩) ?_ ?_
            · intro k _ hk
              rcases hk with hk | hk
              · rw [hm] at hk; cases hk
              · exact setRow_other w b k _ (fun x => hk (by rw [hbb, x]))
            · exact fun k hk => .inl ⟨by rw [hm]; simp, hk⟩
            · refine ⟨b, _, E, hρ, setRow_at w b _ _ E h2, ?_, fun U hU => hT U (by rw [← hU]; exact same_tag hsame)⟩
              refine FR.keep ?_ (by simp) ?_ (fun e _ => kp e) hf2
              · intro k _ hk
                exact setRow_other w b k _ (fun x => hk (.inr ⟨d, _, hm, by rw [hbb, x]⟩))
              · rintro k _ (hk | ⟨e, o2, he, hk⟩)
                · exact .inl hk
                · by_cases hed : d = e
                  · subst hed; exact .inr ⟨d, _, hm, hk⟩
                  · exact .inr ⟨e, o2, by rw [← getM_setM_ne hed]; exact he, hk⟩
            · exact fun t => .inr ⟨rfl, fun _ => kp d⟩
            · exact fun e v _ _ _ => kp d
  · rename_i d i p
    cases hm : getM s.mem d with
    | none => rw [hm] at hst; cases hst
    | some ob =>
      rw [hm] at hst
      cases ob with
      | box _ => cases hst
      | map _ _ _ _ _ => cases hst
      | row E t l =>
        simp only at hst
        cases hs : setP [] (enc t (l.getD i.toNat (dflt t))) p vx with
        | none => rw [hs] at hst; cases hst
        | some u =>
          rw [hs] at hst
          simp only [Option.bind_some] at hst
          cases hd : dec [] t u with
          | none => rw [hd] at hst; cases hst
          | some y =>
            rw [hd] at hst
            cases hst
            obtain ⟨E2, t2, l2, b, cap, off, hm2, hρ, h0, h1, hp, e⟩ : FR w (Own cx ρ s.mem) ρ s.mem (.eptr d i p) [xa] := ha
            rw [hm] at hm2
            cases hm2
            injection e with e
            obtain ⟨hsz, css, ⟨hlen, hown⟩, hrow⟩ := h.ob d _ hm
            rcases hown with ⟨e2, _⟩ | ⟨g, cap2, cur, e2, hbg, hg, hle, hmax, hcs, htake⟩
            · rw [hρ] at e2; cases e2
            · rw [hρ] at e2
              cases e2
              have hi : i.toNat < l.length := by omega
              obtain ⟨pre, c, post, e3, hl3, hc3, hset⟩ := hrow.at (fun _ _ => DR.len (t := t)) i.toNat hi (dflt t)
              obtain ⟨⟨pre2, us, post2, e4, hl4, hl5, hf2⟩, _⟩ := FR.setP p (FR.enc (ρ := ρ) (m := s.mem) hc3) hcf hp hs
              have hcur : cur.toList = css ++ cur.toList.drop (l.length * t.size) := by rw [← htake, List.take_append_drop]
              generalize htl : cur.toList.drop (l.length * t.size) = tl at hcur
              have hcur2 : cur = ((pre ++ pre2) ++ us ++ (post2 ++ post ++ tl)).toArray := by
                apply Array.toList_inj.1
                rw [hcur, e3, e4]
                simp
              have hoff : (pre ++ pre2).length = i.toNat * t.size + off := by rw [List.length_append, hl3, hl4]
              rw [hcur2] at hg
              refine ⟨⟨b, i.toNat * t.size + off, none⟩, w.setRow b ((pre ++ pre2) ++ cs ++ (post2 ++ post ++ tl)).toArray, e, ?_, ?_, fun k hk => setRow_other w b k _ (by first | exact hk | exact fun x => hk x.symm), by simp⟩
              · rw [← hoff]; exact store_sound hfit hc hcf hones hg hl5
              · have hbb : hb (ρ d) = some b := by rw [hρ]; rfl
                have kp : ∀ e, Keeps s.mem (setM s.mem d (.row E t (l.set i.toNat y))) ρ ρ e := by
                  intro e
                  by_cases he : d = e
                  · subst he
                    exact ⟨rfl, fun u hu => (by rw [hm] at hu; cases hu), fun E' t' l' hl => (by rw [hm] at hl; cases hl; exact ⟨_, getM_setM hm, by simp⟩), fun K E k t l hl => (by rw [hm] at hl; cases hl)⟩
                  · exact Keeps.same rfl (getM_setM_ne he)
                have hown' : ∀ k, k < w.heap.size → Own cx ρ (setM s.mem d (.row E t (l.set i.toNat y))) k → Own cx ρ s.mem k := by
                  rintro k _ (hk | ⟨e, o2, he, hk⟩)
                  · exact .inl hk
                  · by_cases hed : d = e
                    · subst hed; exact .inr ⟨d, _, hm, hk⟩
                    · exact .inr ⟨e, o2, by rw [← getM_setM_ne hed]; exact he, hk⟩
                have hwk : ∀ k, k < w.heap.size → ¬ Own cx ρ s.mem k → (w.setRow b ((pre ++ pre2) ++ cs ++ (post2 ++ post ++ tl)).toArray).heap[k]? = w.heap[k]? :=
                  fun k _ hk => setRow_other w b k _ (fun x => hk (.inr ⟨d, _, hm, by rw [hbb, x]⟩))
                refine h.upd (s' := { s with mem := setM s.mem d (.row E t (l.set i.toNat y)) }) d (.row E t (l.set i.toNat y)) rfl (getM_setM hm) (fun e he => getM_setM_ne (fun x => he x.symm)) (fun _ _ => rfl) (bel_setRow (h.ge d _ b hm hbb).1 _) ?_ ?_ ?_ (.inr ⟨⟨_, hm⟩, rfl⟩) ?_ ?_
                · intro k _ hk
                  rcases hk with hk | hk
                  · rw [hm] at hk; cases hk
                  · exact setRow_other w b k _ (fun x => hk (by rw [hbb, x]))
                · exact fun k hk => .inl ⟨by rw [hm]; simp, hk⟩
                · have hd2 : DR w (Own cx ρ s.mem) t y (pre2 ++ cs ++ post2) := dec_plain hd hf2
                  have hrow2 := hset y _ hd2
                  have hlen2 : (pre ++ (pre2 ++ cs ++ post2) ++ post).length = (l.set i.toNat y).length * t.size := Row.len (fun _ _ => DR.len (t := t)) hrow2
                  refine ⟨hsz, pre ++ (pre2 ++ cs ++ post2) ++ post, ⟨by simpa using hlen2, .inr ⟨b, cap, _, by rw [hρ]; simp, hbg, setRow_at w b _ _ E hg, by simpa using hle, hmax, ?_, ?_⟩⟩,
                    hrow2.mono fun _ _ hx => DR.keep hwk (by simp) hown' hx⟩
                  · rw [← hcs]
                    have := congrArg Array.size hcur2
                    rw [this]
                    simp only [List.size_toArray, List.length_append]
                    omega
                  · have e5 : ((pre ++ pre2) ++ cs ++ (post2 ++ post ++ tl)).toArray.toList = (pre ++ (pre2 ++ cs ++ post2) ++ post) ++ tl := by simp
                    rw [e5, ← hlen2]
                    exact List.take_left
                · exact fun t => .inr ⟨rfl, fun _ => kp d⟩
                · exact fun e v _ _ _ => kp d
  · cases hst
/-- What is owed behind a store: but where it went all is as it was. -/
def OwedA (cx : Cx) (a : Act) (w : World) (xa : Operand) (dst : Option Nat) {R : Type} (out : List V → Mem → Option R) (J : Nat → St → Option R) (r : R) (K : V → St → Tree) (N : Act → World → Prop) : Prop :=
  ∀ v s' w' ρ' x, interp out J (K v s') = some r → Sim cx s' a w' ρ' → VR w' (Own cx ρ' s'.mem) ρ' s'.mem v x → (∀ (B : Nat → Prop) ad, a.eval xa = .pointer (some ad) → B ad.block → Agree B w w') → N (a.put dst x) w'
theorem store_op {T : TypeId} {xa xx : Operand} (ho : o.op = .store T xa xx) (h : Sim cx s a w ρ) (hr : interp out J (evOp P C s o K) = some r) (hK : OwedA cx a w xa o.dst out J r K N) : o.wp P a w N Q := by
  unfold evOp at hr
  rw [ho] at hr
  simp only at hr
  split at hr
  · rename_i s2 hf
    obtain ⟨h2, _, _, _⟩ := Sim.freezeAll _ h hf
    split at hr
    · rename_i s3 hfit hst
      obtain ⟨ad, w2, e, hrun, h3, hother, hsize⟩ := h2.storeTo (h2.ev xa) (h2.ev xx) hfit hst
      refine wp_skipped (w' := w2) ?_ (hK _ _ _ _ undef hr h3 (rfl : V1 _ _ _ _ .undef undef) (fun B ad' e' hB => ⟨by rw [hsize]; exact Nat.le_refl _, fun k _ hn => hother k (fun x => hn (by rw [e] at e'; cases e'; rw [x]; exact hB))⟩))
      unfold execOp
      rw [ho]
      simp [Instr.storeAt, Instr.sureAddr, e, hrun]
    · cases hr
  · cases hr
theorem nilCheck_sound {x : Operand} (ho : o.op = .nilCheck x) (h : Sim cx s a w ρ) (hr : interp out J (evOp P C s o K) = some r) (hK : Owed cx a o.dst out J r K N) : Ran P B o a w N := by
  unfold evOp at hr
  rw [ho] at hr
  simp only at hr
  have hx := h.ev x
  have key : ∀ ad, a.eval x = .pointer (some ad) → ∀ w', Agree B w w' → (execOp a.eval o).run P w' = .ok (.value (a.eval x)) w' := by
    intro ad e w' _
    unfold execOp
    rw [ho]
    simp only [e]
    rfl
  split at hr
  · rename_i d p hv
    rw [hv] at hx
    have hx2 := hx
    obtain ⟨b, off, v, _, _, _, e⟩ : FR w (Own cx ρ s.mem) ρ s.mem (.ptr d p) [a.eval x] := hx
    injection e with e
    exact ran_pure (key _ e) (hK _ _ _ _ _ hr h hx2)
  · rename_i d i p hv
    rw [hv] at hx
    have hx2 := hx
    obtain ⟨_, _, _, b, _, off, _, _, _, _, _, e⟩ : FR w (Own cx ρ s.mem) ρ s.mem (.eptr d i p) [a.eval x] := hx
    injection e with e
    exact ran_pure (key _ e) (hK _ _ _ _ _ hr h hx2)
  · rename_i u hv
    rw [hv] at hx
    have hx2 := hx
    obtain ⟨b, off, _, e, _⟩ : FR w (Own cx ρ s.mem) ρ s.mem (.sptr none u) [a.eval x] := hx
    injection e with e
    exact ran_pure (key _ e) (hK _ _ _ _ _ hr h hx2)
  · cases hr
end
end Go.Rf
