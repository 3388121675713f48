/- Regions whose order is drawn, with variables that they make: a block that is made early is laid aside until the evaluator makes it. -/
import Derived.Test.YthdddaikdiaijaaDoorRfDr
namespace Go.Rf
open Go.RowKit (Below)
section
variable {P : Program} {C : Tab} {cx : Cx} {s s' s1 : St} {a : Act} {w w' : World} {ρ ρ' : Nat → Value} {R : Type} {out : List V → Mem → Option R} {J : Nat → St → Option R} {r : R}
/-! ### lists of what is listed -/
theorem lst_un (L : Array Bool) (k : Nat) : ∀ D : List Nat, (lst L D).getD k true = false ↔ L.getD k true = false ∧ k ∉ D
  | [] => by simp [lst]
  | i :: D => by
    show ((lst L D).setIfInBounds i true).getD k true = false ↔ _
    have ih := lst_un L k D
    by_cases h : i = k
    · subst h
      have : ((lst L D).setIfInBounds i true).getD i true = true := by
        simp only [Array.getD_eq_getD_getElem?, Array.getElem?_setIfInBounds_self]
        split <;> rfl
      rw [this]
      simp
    · rw [getD_set_ne true h, ih]
      simp only [List.mem_cons, not_or]
      exact ⟨fun x => ⟨x.1, fun e => h e.symm, x.2⟩, fun x => ⟨x.1, x.2.2⟩⟩
theorem lst_size (L : Array Bool) : ∀ D : List Nat, (lst L D).size = L.size
  | [] => rfl
  | i :: D => by
    show ((lst L D).setIfInBounds i true).size = _
    rw [Array.size_setIfInBounds, lst_size L D]
theorem lst_in (L : Array Bool) (k : Nat) (D : List Nat) : (lst L D).getD k false = true ↔ k < L.size ∧ (L.getD k true = true ∨ k ∈ D) := by
  have h1 := lst_un L k D
  have hs := lst_size L D
  by_cases hk : k < L.size
  · have e : (lst L D).getD k false = (lst L D).getD k true := by
      simp [Array.getD_eq_getD_getElem?, Array.getElem?_eq_getElem (hs.symm ▸ hk : k < (lst L D).size)]
    rw [e]
    cases hv : (lst L D).getD k true with
    | true =>
      rw [hv] at h1
      refine ⟨fun _ => ⟨hk, ?_⟩, fun _ => rfl⟩
      cases hl : L.getD k true with
      | true => exact .inl rfl
      | false =>
        by_cases hd : k ∈ D
        · exact .inr hd
        · exact absurd (h1.2 ⟨hl, hd⟩) (by simp)
    | false =>
      obtain ⟨h2, h3⟩ := h1.1 hv
      refine ⟨fun x => (by cases x), fun x => ?_⟩
      rcases x.2 with x | x
      · rw [h2] at x; cases x
      · exact (h3 x).elim
  · have : (lst L D).getD k false = false := by
      simp [Array.getD_eq_getD_getElem?, Array.getElem?_eq_none (by rw [hs]; omega : (lst L D).size ≤ k)]
    rw [this]
    exact ⟨fun x => (by cases x), fun x => (hk x.1).elim⟩
theorem lst_set (L : Array Bool) {i : Nat} : ∀ D : List Nat, i ∉ D → lst (L.setIfInBounds i true) D = (lst L D).setIfInBounds i true
  | [], _ => rfl
  | j :: D, h => by
    simp only [List.mem_cons, not_or] at h
    show (lst (L.setIfInBounds i true) D).setIfInBounds j true = ((lst L D).setIfInBounds j true).setIfInBounds i true
    rw [lst_set L D h.2, Array.setIfInBounds_comm _ _ h.1]
theorem lst_same (L : Array Bool) {D D' : List Nat} (h : ∀ i, i ∈ D ↔ i ∈ D') : lst L D = lst L D' := by
  refine Array.ext (by rw [lst_size, lst_size]) fun k h1 h2 => ?_
  have e1 : (lst L D)[k] = (lst L D).getD k true := by simp [Array.getD, h1]
  have e2 : (lst L D')[k] = (lst L D').getD k true := by simp [Array.getD, h2]
  rw [e1, e2]
  have a1 := lst_un L k D
  have a2 := lst_un L k D'
  rw [h k] at a1
  cases hx : (lst L D).getD k true with
  | false => exact ((a2.2 (a1.1 hx))).symm
  | true =>
    cases hy : (lst L D').getD k true with
    | true => rfl
    | false => rw [a1.2 (a2.1 hy)] at hx; cases hx
theorem ready_lst {ops : Array Oper} {L : Array Bool} {D D' : List Nat} {j : Nat} (hs : ∀ i ∈ D, i ∈ D') (hj : j ∈ Region.ready .any ops (lst L D)) (hn : j ∉ D') : j ∈ Region.ready .any ops (lst L D') := by
  rw [mem_ready] at *
  obtain ⟨h0, o, ho, hall⟩ := hj
  refine ⟨(lst_un L j D').2 ⟨((lst_un L j D).1 h0).1, hn⟩, o, ho, fun e he hb => ?_⟩
  obtain ⟨h1, h2⟩ := (lst_in L e.on D).1 (hall e he hb)
  exact (lst_in L e.on D').2 ⟨h1, h2.imp id (hs _)⟩
theorem nodup_len : ∀ {l l' : List Nat}, l.Nodup → (∀ x ∈ l, x ∈ l') → l.length ≤ l'.length
  | [], _, _, _ => Nat.zero_le _
  | x :: l, l', h, hs => by
    have hx := hs x (by simp)
    obtain ⟨h1, h2⟩ := List.nodup_cons.1 h
    have := nodup_len (l' := l'.erase x) h2 (fun y hy => (List.mem_erase_of_ne (fun e : y = x => h1 (e ▸ hy))).2 (hs y (by simp [hy])))
    rw [List.length_erase_of_mem hx] at this
    have : 0 < l'.length := List.length_pos_of_mem hx
    simp only [List.length_cons]
    omega
theorem missing {D AL : List Nat} (hA : AL.Nodup) (hlt : D.length < AL.length) : ∃ i ∈ AL, i ∉ D := by
  refine Classical.byContradiction fun h => ?_
  have := nodup_len hA (l' := D) fun x hx => Classical.byContradiction fun hn => h ⟨x, hx, hn⟩
  omega
theorem allIn {D AL : List Nat} (hD : D.Nodup) (hs : ∀ i ∈ D, i ∈ AL) (hlen : AL.length ≤ D.length) : ∀ i, i ∈ D ↔ i ∈ AL := by
  refine fun i => ⟨hs i, fun hi => Classical.byContradiction fun hn => ?_⟩
  have := nodup_len (l := i :: D) (l' := AL) (List.nodup_cons.2 ⟨hn, hD⟩) (by intro x hx; rcases List.mem_cons.1 hx with e | hx; exact e ▸ hi; exact hs x hx)
  simp only [List.length_cons] at this
  omega
/-! ### blocks that are laid aside -/
def asd (cx : Cx) (bs : List Nat) : Cx := ⟨fun b => cx.own b ∨ b ∈ bs, cx.w0, cx.mine, cx.pin, cx.keep⟩
theorem asd_nil : asd cx [] = cx := by cases cx; simp [asd]
theorem asd_same {bs bs' : List Nat} (h : ∀ b, b ∈ bs ↔ b ∈ bs') : asd cx bs = asd cx bs' := by
  unfold asd
  congr 1
  funext b
  rw [h b]
theorem Sim.setAside {bs : List Nat} (h : Sim (asd cx bs) s a w ρ) (o : Go.Obj) : Sim (asd cx (w.heap.size :: bs)) s a (w.alloc o) ρ := by
  have hold := old_alloc (w := w) o
  have hsz : w.heap.size ≤ (w.alloc o).heap.size := (below_alloc (Nat.le_refl _) o).size
  have ho : ∀ b, b < w.heap.size → Own (asd cx (w.heap.size :: bs)) ρ s.mem b → Own (asd cx bs) ρ s.mem b := by
    rintro b hlt ((hx | hx) | hx)
    · exact .inl (.inl hx)
    · rcases List.mem_cons.1 hx with e | hx
      · omega
      · exact .inl (.inr hx)
    · exact .inr hx
  refine ⟨h.sz, h.df, h.be.trans (bel_alloc o), ?_, fun d o b h1 h2 => ⟨(h.ge d o b h1 h2).1, Nat.lt_of_lt_of_le (h.ge d o b h1 h2).2 hsz⟩, ?_, h.ds, ?_, ?_, h.pl, h.pn⟩
  · rintro b (hx | hx)
    · exact Nat.lt_of_lt_of_le (h.fo b (.inl hx)) hsz
    · rcases List.mem_cons.1 hx with e | hx
      · subst e; simp
      · exact Nat.lt_of_lt_of_le (h.fo b (.inr hx)) hsz
  · rintro d o b h1 h2 (hx | hx)
    · exact h.no d o b h1 h2 (.inl hx)
    · rcases List.mem_cons.1 hx with e | hx
      · have := (h.ge d o b h1 h2).2; omega
      · exact h.no d o b h1 h2 (.inr hx)
  · intro d o' hd
    exact (h.ob d o' hd).keep rfl (fun b hb' => hold b (h.ge d o' b hd hb').2) (fun b hlt _ => hold b hlt) hsz ho (fun _ _ e _ => Keeps.refl _ _ e)
  · intro t
    exact (h.fr t).keep (fun b hlt _ => hold b hlt) hsz ho (fun e _ => Keeps.refl _ _ e)
theorem Sim.adopt {bs : List Nat} {b : Nat} (h : Sim (asd cx (b :: bs)) s a w ρ) (hnb : b ∉ bs) (hno : ¬ cx.own b) (hbase : cx.w0.heap.size ≤ b) {d : Nat} (hf : s.free d = some s1) (hkd : 1000 ≤ d) {v : V} {cs : List Value} {T : TypeId}
    (hcell : w.heap[b]? = some (.cells (List.toArray cs) T (0, 0))) (hc : FR w (Own (asd cx (b :: bs)) ρ s1.mem) ρ s1.mem v cs) (hnd : v.has d = false) (htg : ∀ U, v.tag = some U → T = U) :
    Sim (asd cx bs) { s1 with mem := (d, .box v) :: s1.mem } a w (updH ρ d (.pointer (some ⟨b, 0, none⟩))) := by
  obtain ⟨h1, hnone, hn, hfr, hbx, _⟩ := h.free hf
  have hget : ∀ e, e ≠ d → getM ((d, .box v) :: s1.mem) e = getM s1.mem e := fun e he => by simp only [getM]; rw [if_neg (fun x => he x.symm)]
  have ho : ∀ x, Own (asd cx bs) (updH ρ d (.pointer (some ⟨b, 0, none⟩))) ((d, .box v) :: s1.mem) x → Own (asd cx (b :: bs)) ρ s1.mem x := by
    rintro x ((hx | hx) | ⟨e, o2, he, hb'⟩)
    · exact .inl (.inl hx)
    · exact .inl (.inr (List.mem_cons_of_mem _ hx))
    · by_cases hed : e = d
      · subst hed
        rw [upd_same] at hb'
        cases hb'
        exact .inl (.inr (by simp))
      · exact .inr ⟨e, o2, (hget e hed) ▸ he, by rw [upd_ne hed] at hb'; exact hb'⟩
  have keep : ∀ e, e ≠ d → Keeps s1.mem ((d, .box v) :: s1.mem) ρ (updH ρ d (.pointer (some ⟨b, 0, none⟩))) e := fun e he => Keeps.same (upd_ne he) (hget e he)
  have hown : (asd cx (b :: bs)).own b := .inr (by simp)
  refine ⟨h1.sz, h1.df, h1.be, ?_, ?_, ?_, ?_, ?_, ?_, h1.pl, ?_⟩
  · rintro x (hx | hx)
    · exact h1.fo x (.inl hx)
    · exact h1.fo x (.inr (List.mem_cons_of_mem _ hx))
  · intro e o x he hx
    by_cases hed : e = d
    · subst hed
      rw [upd_same] at hx
      cases hx
      exact ⟨(.inl hbase), h1.fo b hown⟩
    · rw [upd_ne hed] at hx
      exact h1.ge e o x ((hget e hed) ▸ he) hx
  · intro e o x he hx hxo
    by_cases hed : e = d
    · subst hed
      rw [upd_same] at hx
      cases hx
      exact hxo.elim hno hnb
    · rw [upd_ne hed] at hx
      exact h1.no e o x ((hget e hed) ▸ he) hx (hxo.imp id (List.mem_cons_of_mem _))
  · intro e e' o o2 x he he' hx hx'
    by_cases hed : e = d
    · by_cases hed' : e' = d
      · rw [hed, hed']
      · subst hed
        rw [upd_same] at hx
        cases hx
        rw [upd_ne hed'] at hx'
        exact (h1.no e' o2 b ((hget e' hed') ▸ he') hx' hown).elim
    · by_cases hed' : e' = d
      · subst hed'
        rw [upd_same] at hx'
        cases hx'
        rw [upd_ne hed] at hx
        exact (h1.no e o b ((hget e hed) ▸ he) hx hown).elim
      · rw [upd_ne hed] at hx
        rw [upd_ne hed'] at hx'
        exact h1.ds e e' o o2 x ((hget e hed) ▸ he) ((hget e' hed') ▸ he') hx hx'
  · intro e o he
    by_cases hed : e = d
    · subst hed
      simp only [getM, if_true] at he
      cases he
      exact ⟨b, cs, T, upd_same, hcell, hc.keep (fun _ _ _ => rfl) (Nat.le_refl _) (fun b _ hb' => ho b hb') (fun k hk => keep k (fun x => by subst x; rw [hnd] at hk; cases hk)), htg⟩
    · have he' := (hget e hed) ▸ he
      refine (h1.ob e o he').keep (upd_ne hed) (fun _ _ => rfl) (fun _ _ _ => rfl) (Nat.le_refl _) (fun b _ hb' => ho b hb') ?_
      intro v' hv k hk
      subst hv
      exact keep k (fun x => by subst x; rw [hbx e v' he'] at hk; cases hk)
  · intro t
    exact (h1.fr t).keep (fun _ _ _ => rfl) (Nat.le_refl _) (fun b _ hb' => ho b hb') (fun k hk => keep k (fun x => by subst x; rw [(hfr t).1] at hk; cases hk))
  · intro e x o hp he
    by_cases hed : e = d
    · subst hed
      have := h1.pl e x hp
      omega
    · exact (upd_ne hed).trans (h1.pn e x o hp ((hget e hed) ▸ he))
theorem Sim.noteIf (h : Sim cx s a w ρ) {d : Nat} {v : V} (hv : d < s.n → VR w (Own cx ρ s.mem) ρ s.mem v (a.tmps.getD d undef)) : Sim cx (s.put (some d) v) a w ρ := by
  refine ⟨h.sz, h.df, h.be, h.fo, h.ge, h.no, h.ds, h.ob, fun t => ?_, h.pl, h.pn⟩
  show VR w (Own cx ρ s.mem) ρ s.mem ((s.fr.set d (if d < s.n then v else .any)).get t) (a.tmps.getD t undef)
  rcases Fr.get_set s.fr d t (if d < s.n then v else .any) with ⟨e, h1 | h1⟩ | ⟨hne, h1⟩
  · rw [h1]
    split
    · subst e; exact hv (by assumption)
    · trivial
  · rw [h1]; trivial
  · rw [h1]
    exact h.fr t
theorem Sim.clr (h : Sim cx s a w ρ) : ∀ ts, Sim cx (Rf.clr ts s) a w ρ
  | [] => h
  | _ :: ts => (Sim.clr h ts).noteIf (fun _ => trivial)
theorem clr_any (s : St) : ∀ (ts : List Nat) (t : Nat), t ∈ ts → (clr ts s).fr.get t = .any
  | [], _, h => by cases h
  | u :: ts, t, h => by
    show ((clr ts s).fr.set u (if u < (clr ts s).n then .any else .any)).get t = .any
    rcases Fr.get_set (clr ts s).fr u t (if u < (clr ts s).n then .any else .any) with ⟨e, h1 | h1⟩ | ⟨hne, h1⟩
    · rw [h1]; split <;> rfl
    · exact h1
    · rw [h1]
      rcases List.mem_cons.1 h with e | h
      · exact (hne e).elim
      · exact clr_any s ts t h
theorem tmps_put {d t : Nat} {x : Value} (h : t ≠ d) : (a.put (some d) x).tmps.getD t undef = a.tmps.getD t undef := by
  show (a.tmps.setIfInBounds d x).getD t undef = _
  simp only [Array.getD_eq_getD_getElem?, Array.getElem?_setIfInBounds]
  rw [if_neg (fun e => h e.symm)]
theorem Sim.putAny (h : Sim cx s a w ρ) {t : Nat} (ht : s.fr.get t = .any) (x : Value) : Sim cx s (a.put (some t) x) w ρ := by
  refine ⟨by simp [Act.put, h.sz], h.df, h.be, h.fo, h.ge, h.no, h.ds, h.ob, fun t' => ?_, h.pl, h.pn⟩
  by_cases e : t' = t
  · subst e; rw [ht]; trivial
  · rw [tmps_put e]; exact h.fr t'
/-! ### variables that are made -/
theorem aOp_out {ops : Array Oper} {i t : Nat} {T : TypeId} (h : aOp P ops i = some (t, T)) : ∃ o z, ops[i]? = some o ∧ o.op = .alloc T ∧ o.dst = some t ∧ o.guard = none ∧ o.after.toList = [] ∧ zeroV P T = some z := by
  unfold aOp at h
  split at h
  · rename_i o ho
    split at h
    · rename_i T' t' hop hd hg haf
      split at h
      · rename_i z hz
        cases h
        exact ⟨o, z, ho, hop, hd, hg, haf, hz⟩
      · cases h
    · cases h
  · cases h
def Facts (P : Program) (ops : Array Oper) (blk : Nat → Nat) (D : List Nat) (a : Act) (w : World) : Prop :=
  ∀ i ∈ D, ∃ t T inf zv, aOp P ops i = some (t, T) ∧ P.info? T = some inf ∧ inf.zero = some zv ∧ (t < a.tmps.size → a.tmps.getD t undef = .pointer (some ⟨blk i, 0, none⟩)) ∧ w.heap[blk i]? = some (.cells zv.cells T (0, 0))
theorem adopt_all {ops : Array Oper} {blk : Nat → Nat} {K : St → Tree} : ∀ (rem : List Nat) {s : St} {ρ : Nat → Value}, Sim (asd cx (rem.map blk)) s a w ρ → Facts P ops blk rem a w → (∀ i ∈ rem, cx.w0.heap.size ≤ blk i ∧ ¬ cx.own (blk i)) → (rem.map blk).Nodup →
    interp out J (evOps P C ops (rem.filterMap fun i => ops[i]?) s K) = some r → ∃ s' ρ', Sim cx s' a w ρ' ∧ interp out J (K s') = some r
  | [], s, ρ, h, _, _, _, hr => ⟨s, ρ, by simpa [asd_nil] using h, hr⟩
  | i :: rem, s, ρ, h, hF, hB, hN, hr => by
    obtain ⟨_, T, inf, zv, h1, h2, h3, h4, h5⟩ := hF i (by simp)
    obtain ⟨o, z, ho, hop, hd, hg, _, hz⟩ := aOp_out h1
    rw [show ((i :: rem).filterMap fun i => ops[i]?) = o :: (rem.filterMap fun i => ops[i]?) by simp [ho]] at hr
    unfold evOps at hr
    rw [hg] at hr
    simp only at hr
    unfold evOp at hr
    rw [hop, hd] at hr
    simp only [hz] at hr
    split at hr
    · rename_i s2 hf
      obtain ⟨inf', zv', t', hi, hzv, _, _, _, _, hfr⟩ := zeroV_sound hz
      rw [h2] at hi
      cases hi
      rw [h3] at hzv
      cases hzv
      simp only [List.map_cons, List.nodup_cons] at hN
      have hA := Sim.adopt (cx := cx) (bs := rem.map blk) h hN.1 (hB i (by simp)).2 (hB i (by simp)).1 hf (key_le _) (v := tagZ P T z) (cs := zv.cells.toList) (T := T) (by simpa using h5) (hfr _ _ _ _).tagZ (has_tagZ (zero_nohas hz _)) (tag_tagZ (zeroV_tag hz))
      have hA2 := hA.noteIf (v := .ptr (key _) []) (fun hlt => by
        rw [h4 (by rw [hA.sz]; exact hlt)]
        exact vr_ptr upd_same (getM_cons _ _ _))
      exact adopt_all rem hA2 (fun j hj => hF j (by simp [hj])) (fun j hj => hB j (by simp [hj])) hN.2 hr
    · cases hr
theorem alloc_step {ops : Array Oper} {Q : Exit → Act → World → Prop} {D : List Nat} {blk : Nat → Nat} {j t : Nat} {T : TypeId} {fuel : Nat} {L : Array Bool} (hj : aOp P ops j = some (t, T)) (hjD : j ∉ D)
    (htD : ∀ i ∈ D, ∀ t' T', aOp P ops i = some (t', T') → t' ≠ t) (hF : Facts P ops blk D a w) (hB : ∀ i ∈ D, cx.w0.heap.size ≤ blk i ∧ ¬ cx.own (blk i)) (hN : (D.map blk).Nodup) (h : Sim (asd cx (D.map blk)) s a w ρ) (hany : s.fr.get t = .any)
    (ih : ∀ blk' a' w', Facts P ops blk' (j :: D) a' w' → (∀ i ∈ j :: D, cx.w0.heap.size ≤ blk' i ∧ ¬ cx.own (blk' i)) → ((j :: D).map blk').Nodup → Sim (asd cx ((j :: D).map blk')) s a' w' ρ → wpAnyG P ops Q (GS ops fun _ => True) fuel (lst L (j :: D)) a' w') :
    wpOp P ops Q j (fun a' w' => GS ops (fun _ => True) j w w' ∧ wpAnyG P ops Q (GS ops fun _ => True) fuel ((lst L D).setIfInBounds j true) a' w') a w := by
  obtain ⟨o, z, ho, hop, hd, hg, _, hz⟩ := aOp_out hj
  obtain ⟨inf, zv, t', hi, hzv, _, _, _, _, _⟩ := zeroV_sound hz
  have hrun : (execOp a.eval o).run P w = .ok (.value (.pointer (some ⟨w.heap.size, 0, none⟩))) (w.alloc (.cells zv.cells T)) := by
    unfold execOp
    rw [hop]
    simp [Instr.alloc, zeroValue, typeInfo, hi, hzv, newVar, newRow]
  have hlt : ∀ i ∈ D, blk i < w.heap.size := fun i hi => by
    obtain ⟨_, _, _, _, _, _, _, _, h5⟩ := hF i hi
    exact (Array.getElem?_eq_some_iff.1 h5).1
  have hne : ∀ i ∈ D, i ≠ j := fun i hi e => hjD (e ▸ hi)
  have hmap : (j :: D).map (fun i => if i = j then w.heap.size else blk i) = w.heap.size :: D.map blk := by
    simp only [List.map_cons, if_true, List.cons.injEq, true_and]
    exact List.map_congr_left fun i hi => if_neg (hne i hi)
  unfold wpOp
  simp only [ho, show Region.wanted o (yielded ops a.tmps) = true by simp [Region.wanted, hg], if_true]
  refine .inl (wp_pure hrun ⟨?_, ?_⟩)
  · unfold GS
    rw [ho]
    simp only [hop, isStore, grows, isCall, isAlloc, Bool.false_eq_true, if_false, Bool.or_true, if_true]
    exact below_alloc (Nat.le_refl _) _
  · rw [hd]
    refine ih (fun i => if i = j then w.heap.size else blk i) _ _ ?_ ?_ ?_ ?_
    · intro i hi'
      rcases List.mem_cons.1 hi' with e | hi'
      · subst e
        refine ⟨t, T, inf, zv, hj, hi, hzv, fun hlt => ?_, ?_⟩
        · simp only [if_true]
          have hlt' : t < a.tmps.size := by simpa [Act.put] using hlt
          simp [Act.put, Array.getD_eq_getD_getElem?, hlt']
        · simp only [if_true]
          exact heap_alloc_new w _
      · obtain ⟨t2, T2, inf2, zv2, h1, h2, h3, h4, h5⟩ := hF i hi'
        have eb : (fun i => if i = j then w.heap.size else blk i) i = blk i := if_neg (hne i hi')
        refine ⟨t2, T2, inf2, zv2, h1, h2, h3, fun hl => ?_, ?_⟩
        · rw [tmps_put (htD i hi' _ _ h1), eb]
          exact h4 (by simpa [Act.put] using hl)
        · rw [eb, old_alloc _ _ (hlt i hi')]
          exact h5
    · intro i hi'
      rcases List.mem_cons.1 hi' with e | hi'
      · subst e
        simp only [if_true]
        refine ⟨Sim.base (cx := asd cx (D.map blk)) h, fun hx => ?_⟩
        have := h.fo _ (.inl hx)
        omega
      · rw [if_neg (hne i hi')]
        exact hB i hi'
    · rw [hmap]
      refine List.nodup_cons.2 ⟨fun hm => ?_, hN⟩
      obtain ⟨i, hi', e⟩ := List.mem_map.1 hm
      have := hlt i hi'
      omega
    · rw [hmap]
      exact (h.setAside _).putAny hany _
theorem schedA_out {ops : Array Oper} {AL : List Nat} : ∀ {n : Nat} {L : Array Bool} {l : List Nat}, schedA ops AL n L = some l →
    (l = [] ∧ endOK ops AL L = true) ∨ ∃ i o l' n', l = i :: l' ∧ ops[i]? = some o ∧ schedA ops AL n' (L.setIfInBounds i true) = some l' ∧ i ∉ AL ∧
      ((reads o.op = true ∧ Region.free .any ops L i = true ∧ i ∈ Region.ready .any ops L ∧ (early ops i = true ∨ light o.op = true)) ∨ (isCall o.op = true ∧ Region.ready .any ops (lst L AL) = [i]))
  | 0, L, l, h => by
    simp only [schedA] at h
    split at h
    · rename_i he; cases h; exact .inl ⟨rfl, he⟩
    · cases h
  | n + 1, L, l, h => by
    simp only [schedA] at h
    split at h
    · split at h
      · rename_i he; cases h; exact .inl ⟨rfl, he⟩
      · cases h
    · rename_i r rs hR
      have hmem : ∀ i ∈ r :: rs, i ∈ Region.ready .any ops L ∧ i ∉ AL := by
        intro i hi
        rw [← hR] at hi
        have := List.mem_filter.1 hi
        exact ⟨this.1, by simpa using this.2⟩
      split at h
      · rename_i i hf
        obtain ⟨l', h1, rfl⟩ := Option.map_eq_some_iff.1 h
        have hp := List.find?_some hf
        have hm := List.mem_of_find?_eq_some hf
        simp only [Bool.and_eq_true] at hp
        obtain ⟨⟨hp1, hp2⟩, hp3⟩ := hp
        split at hp1
        · rename_i o ho
          rw [ho] at hp3
          exact .inr ⟨i, o, l', n, rfl, ho, h1, (hmem i hm).2, .inl ⟨hp1, hp2, (hmem i hm).1, (Bool.or_eq_true _ _).mp hp3⟩⟩
        · cases hp1
      · split at h
        · rename_i heq hh
          have heq := of_decide_eq_true heq
          obtain ⟨l', h1, rfl⟩ := Option.map_eq_some_iff.1 h
          cases ho : ops[r]? with
          | none => rw [ho] at hh; cases hh
          | some o =>
            rw [ho] at hh
            exact .inr ⟨r, o, l', n, rfl, ho, h1, (hmem r (by simp)).2, .inr ⟨hh, heq⟩⟩
        · cases h
theorem wpAnyG_mono {ops : Array Oper} {Q : Exit → Act → World → Prop} {G G' : Nat → World → World → Prop} (hG : ∀ i w w', G i w w' → G' i w w') : ∀ (n : Nat) (L : Array Bool) (a : Act) (w : World), wpAnyG P ops Q G n L a w → wpAnyG P ops Q G' n L a w
  | 0, _, _, _, h => h
  | n + 1, _, _, _, h => ⟨h.1, fun i hi => wpOp_mono (fun a' w' h' => ⟨hG _ _ _ h'.1, wpAnyG_mono hG n _ a' w' h'.2⟩) (h.2 i hi)⟩
theorem GS_true {ops : Array Oper} {B : Nat → Prop} (i : Nat) (w w' : World) (h : GS ops B i w w') : GS ops (fun _ => True) i w w' := by
  unfold GS at *
  split
  · rename_i o ho
    rw [ho] at h
    simp only at h
    split
    · rename_i hs
      rw [if_pos hs] at h
      exact ⟨h.size, fun _ _ hn => (hn trivial).elim⟩
    · rename_i hs
      rw [if_neg hs] at h
      exact h
  · rename_i ho
    rw [ho] at h
    exact h
theorem aTmp_of {ops : Array Oper} {i t : Nat} {T : TypeId} (h : aOp P ops i = some (t, T)) : aTmp P ops i = t := by unfold aTmp; rw [h]
theorem tmps_ne {ops : Array Oper} {AL : List Nat} : (AL.map (aTmp P ops)).Nodup → ∀ i ∈ AL, ∀ j ∈ AL, i ≠ j → aTmp P ops i ≠ aTmp P ops j := by
  induction AL with
  | nil => intro _ i hi; cases hi
  | cons x AL ih =>
    intro h i hi j hj hne
    simp only [List.map_cons, List.nodup_cons] at h
    rcases List.mem_cons.1 hi with e | hi2
    · rcases List.mem_cons.1 hj with e' | hj2
      · exact (hne (e.trans e'.symm)).elim
      · intro e2
        exact h.1 (e ▸ e2 ▸ List.mem_map.2 ⟨j, hj2, rfl⟩)
    · rcases List.mem_cons.1 hj with e' | hj2
      · intro e2
        exact h.1 (e' ▸ e2 ▸ List.mem_map.2 ⟨i, hi2, rfl⟩)
      · exact ih h.2 i hi2 j hj2 hne
/-- A region whose order is drawn, with variables that it makes. -/
theorem draw_A {W0 : World} (hC : TabAt P W0 cx C) (hos : C.os = []) {ops : Array Oper} {Q : Exit → Act → World → Prop} (hsel : Region.noSelect ops = true) (hQ : ∀ c a w, ¬ Q (.panic c) a w) {AL lB BT : List Nat} {m : Nat} {K : St → Tree}
    (hAL : ∀ i ∈ AL, ∃ t T, aOp P ops i = some (t, T)) (hAn : AL.Nodup) (hts : (AL.map (aTmp P ops)).Nodup) (hlB : ∀ j ∈ lB, ∀ (o : Oper), ops[j]? = some o → ∀ t ∈ BT, o.dst ≠ some t)
    (hK : ∀ s' a' w' ρ', Sim cx s' a' w' ρ' → interp out J (K s') = some r → Q .normal a' w') :
    ∀ (l : List Nat) (n : Nat) (L : Array Bool), schedA ops AL n L = some l → sched ops m (lst (setL L l) AL) = some lB → (∀ i ∈ l, ∀ (o : Oper), ops[i]? = some o → ∀ t ∈ AL.map (aTmp P ops), o.dst ≠ some t) → (∀ i ∈ AL, L.getD i true = false) →
    ∀ (k : Nat) (D : List Nat) (blk : Nat → Nat) {s : St} {a : Act} {w : World} {ρ : Nat → Value}, D.length + k = AL.length → D.Nodup → (∀ i ∈ D, i ∈ AL) → Facts P ops blk D a w → (∀ i ∈ D, cx.w0.heap.size ≤ blk i ∧ ¬ cx.own (blk i)) → (D.map blk).Nodup →
    Sim (asd cx (D.map blk)) s a w ρ → (∀ t ∈ AL.map (aTmp P ops), s.fr.get t = .any) →
    interp out J (evOpsA P C ops (AL.map (aTmp P ops)) l s fun s' => evOps P C ops (AL.filterMap fun i => ops[i]?) s' fun s' => evOpsS P C ops BT lB s' K) = some r →
    wpAnyG P ops Q (GS ops fun _ => True) (l.length + k + lB.length) (lst L D) a w
  | [], n, L, hsc, hsb, hdl, hLA, k => by
    have he : endOK ops AL L = true := by
      rcases schedA_out hsc with ⟨_, h1⟩ | ⟨_, _, _, _, h1, _⟩
      · exact h1
      · cases h1
    have aready : ∀ {D : List Nat} {i : Nat}, i ∈ AL → i ∉ D → i ∈ Region.ready .any ops (lst L D) := by
      intro D i hi hiD
      obtain ⟨t, T, h1⟩ := hAL i hi
      obtain ⟨o, z, ho, _, _, _, haf, _⟩ := aOp_out h1
      refine mem_ready.2 ⟨(lst_un L i D).2 ⟨hLA i hi, hiD⟩, o, ho, fun e he => ?_⟩
      have : e ∈ o.after.toList := by simpa using he
      rw [haf] at this
      cases this
    induction k with
    | zero =>
      intro D blk s a w ρ hlen hDn hDs hF hB hN h hany hr
      have hiff := allIn hDn hDs (by omega)
      rw [show lst L D = lst L AL from lst_same L hiff]
      have hnd : ∀ {l l' : List Nat}, (∀ i, i ∈ l ↔ i ∈ l') → l'.Nodup → (l.map blk).Nodup → (l'.map blk).Nodup := by
        intro l l' hiff hl' hm
        have inj : ∀ i ∈ l, ∀ j ∈ l, blk i = blk j → i = j := by
          intro i hi j hj e
          clear hiff hl'
          induction l with
          | nil => cases hi
          | cons x l ih =>
            simp only [List.map_cons, List.nodup_cons] at hm
            rcases List.mem_cons.1 hi with e1 | hi2
            · rcases List.mem_cons.1 hj with e2 | hj2
              · rw [e1, e2]
              · exact (hm.1 (e1 ▸ e ▸ List.mem_map.2 ⟨j, hj2, rfl⟩)).elim
            · rcases List.mem_cons.1 hj with e2 | hj2
              · exact (hm.1 (e2 ▸ e ▸ List.mem_map.2 ⟨i, hi2, rfl⟩)).elim
              · exact ih hm.2 hi2 hj2
        have inj' : ∀ i ∈ l', ∀ j ∈ l', blk i = blk j → i = j := fun i hi j hj e => inj i ((hiff i).2 hi) j ((hiff j).2 hj) e
        clear hiff inj hm
        induction l' with
        | nil => exact List.nodup_nil
        | cons x l' ih =>
          obtain ⟨h1, h2⟩ := List.nodup_cons.1 hl'
          simp only [List.map_cons, List.nodup_cons]
          refine ⟨fun hm => ?_, ih h2 fun i hi j hj e => inj' i (by simp [hi]) j (by simp [hj]) e⟩
          obtain ⟨j, hj, e⟩ := List.mem_map.1 hm
          have := inj' j (by simp [hj]) x (by simp) e
          exact h1 (this ▸ hj)
      have hsim : Sim (asd cx (AL.map blk)) s a w ρ := by
        rw [← asd_same (bs := D.map blk) (bs' := AL.map blk) (fun b => by simp only [List.mem_map, hiff])]
        exact h
      obtain ⟨s', ρ', h', hr'⟩ := adopt_all (cx := cx) (K := fun s' => evOpsS P C ops BT lB s' K) AL hsim (fun i hi => hF i ((hiff i).2 hi)) (fun i hi => hB i ((hiff i).2 hi)) (hnd hiff hAn hN) hr
      have hd := draw_stores (a0 := a) hC hos hsel hQ lB m _ hsb hlB h' (fun _ _ => rfl) hr' hK
      have := wpAnyG_mono GS_true _ _ _ _ hd
      simpa [setL] using this
    | succ k ih =>
      intro D blk s a w ρ hlen hDn hDs hF hB hN h hany hr
      obtain ⟨i0, hi0, hi0D⟩ := missing hAn (show D.length < AL.length by omega)
      rw [show [].length + (k + 1) + lB.length = ([].length + k + lB.length) + 1 by simp only [List.length_nil]; omega]
      refine ⟨fun h0 => (by have := aready hi0 hi0D; rw [h0] at this; cases this), fun j hj => ?_⟩
      have hjD : j ∉ D := ((lst_un L j D).1 (mem_ready.1 hj).1).2
      have hjA : j ∈ AL := by
        refine Classical.byContradiction fun hn => ?_
        have h1 := List.all_eq_true.1 he i0 hi0
        have h2 : j ∈ Region.ready .any ops (lst L (AL.erase i0)) := ready_lst (fun x hx => (List.mem_erase_of_ne (fun e : x = i0 => hi0D (e ▸ hx))).2 (hDs x hx)) hj (fun hx => hn (List.mem_of_mem_erase hx))
        have h3 := List.all_eq_true.1 h1 j h2
        exact hn (by simpa using h3)
      obtain ⟨t, T, hjo⟩ := hAL j hjA
      refine alloc_step (cx := cx) hjo hjD ?_ hF hB hN h (hany t (List.mem_map.2 ⟨j, hjA, aTmp_of hjo⟩)) ?_
      · intro i hi t' T' hio
        have := tmps_ne hts i (hDs i hi) j hjA (fun e => hjD (e ▸ hi))
        rwa [aTmp_of hio, aTmp_of hjo] at this
      · intro blk' a' w' hF' hB' hN' h'
        exact ih (j :: D) blk' (by simp only [List.length_cons]; omega) (List.nodup_cons.2 ⟨hjD, hDn⟩) (by intro x hx; rcases List.mem_cons.1 hx with e | hx; exact e ▸ hjA; exact hDs x hx) hF' hB' hN' h' hany hr
  | i :: l, n, L, hsc, hsb, hdl, hLA, k => by
    rcases schedA_out hsc with ⟨h1, _⟩ | ⟨i', o, l', n', h1, ho, hsc', hiA, hkind⟩
    · cases h1
    cases h1
    have hLA' : ∀ j ∈ AL, (L.setIfInBounds i true).getD j true = false := fun j hj => by
      rw [getD_set_ne true (fun e : i = j => hiA (e ▸ hj))]
      exact hLA j hj
    have ihl := fun (k : Nat) (D : List Nat) (blk : Nat → Nat) {s : St} {a : Act} {w : World} {ρ : Nat → Value} => draw_A hC hos hsel hQ hAL hAn hts hlB hK l n' _ hsc' hsb (fun j hj => hdl j (List.mem_cons_of_mem _ hj)) hLA' k D blk (s := s) (a := a) (w := w) (ρ := ρ)
    have keep : ∀ (a : Act) (x : Value), ∀ t ∈ AL.map (aTmp P ops), (a.put o.dst x).tmps.getD t undef = a.tmps.getD t undef := by
      intro a x t ht
      have hne := hdl i (by simp) o ho t ht
      cases hd : o.dst with
      | none => rfl
      | some d => exact tmps_put (fun e => hne (by rw [hd, e]))
    have hsz : ∀ (a : Act) (x : Value), (a.put o.dst x).tmps.size = a.tmps.size := by
      intro a x
      cases o.dst <;> simp [Act.put]
    have keepF : ∀ {D : List Nat} {blk : Nat → Nat} {a : Act} {w : World} (x : Value), (∀ j ∈ D, j ∈ AL) → Facts P ops blk D a w → Facts P ops blk D (a.put o.dst x) w := by
      intro D blk a w x hDs hF j hj
      obtain ⟨t, T, inf, zv, h1, h2, h3, h4, h5⟩ := hF j hj
      exact ⟨t, T, inf, zv, h1, h2, h3, fun hl => by rw [keep a x t (List.mem_map.2 ⟨j, hDs j hj, aTmp_of h1⟩)]; exact h4 (by rw [hsz] at hl; exact hl), h5⟩
    have hiD : ∀ {D : List Nat}, (∀ j ∈ D, j ∈ AL) → i ∉ D := fun hDs hi => hiA (hDs i hi)
    induction k with
    | zero =>
      intro D blk s a w ρ hlen hDn hDs hF hB hN h hany hr
      simp only [evOpsA, ho] at hr
      split at hr
      · rename_i hg
        have hw : Region.wanted o (yielded ops a.tmps) = true := by simp [Region.wanted, hg]
        rw [show (i :: l).length + 0 + lB.length = (l.length + 0 + lB.length) + 1 by simp only [List.length_cons]; omega]
        rcases hkind with ⟨hrd, hfree, hready, hearly⟩ | ⟨hcall, hready⟩
        · obtain ⟨x, hrun, hn⟩ := evOp_reads (B := fun _ => early ops i = false) (fun T x e _ _ h => by rcases hearly with h1 | h1; exact absurd (h1.symm.trans h) (by simp); rw [e] at h1; exact absurd h1 (by simp [light])) (fun e _ h => by rcases hearly with h1 | h1; exact absurd (h1.symm.trans h) (by simp); unfold light at h1; split at h1; exact absurd h1 (by simp); rw [e] at h1; exact absurd h1 (by simp)) (N := fun a' w' => Facts P ops blk D a' w' → wpAnyG P ops Q (GS ops fun _ => True) (l.length + 0 + lB.length) (lst (L.setIfInBounds i true) D) a' w') hrd h hr (by
            intro v s' w' ρ' x hr3 h3 hv hF'
            exact ihl 0 D blk hlen hDn hDs hF' hB hN ((h3.put o.dst hv).clr _) (clr_any _ _) hr3)
          have hn := hn (keepF x hDs hF)
          rw [lst_set L D (hiD hDs)] at hn
          have hns : isStore o.op = false ∧ grows o.op = false := by
            cases hop : o.op <;> rw [hop] at hrd <;> simp [reads, isStore, grows, isCall, isAlloc] at hrd ⊢
            rename_i c
            cases hcc : c.callee <;> rw [hcc] at hrd <;> simp at hrd ⊢
          refine wpAnyG_first (S := fun w' => Agree (fun _ => early ops i = false) w w') ho (Region.noSelect_spec hsel) (fun c a' w' hq => (hQ c _ w' hq).elim) (fun w => by unfold GS; rw [ho]; simp [hns.1, hns.2]) _ _ a w ?_ ?_ (ready_lst (D := []) (fun _ h => by cases h) hready (hiD hDs)) (.inl ⟨hw, hrun⟩) (Agree.refl _ w) hn
          · intro j oj hj hji hun hno
            exact Region.free_spec ho hfree j oj hj hji ((lst_un L j D).1 hun).1 hno
          · intro j oj hj _ hno w1 w2 h1 hg2
            unfold GS at hg2
            rw [hj] at hg2
            simp only at hg2
            split at hg2
            · rename_i hst
              by_cases her : early ops i = true
              · exfalso
                unfold early at her
                have := Array.all_eq_true_iff_forall_mem.1 her oj (Array.mem_of_getElem? hj)
                rw [hst] at this
                simp only [Bool.not_true, Bool.false_or] at this
                obtain ⟨e, he2, hb2⟩ := Array.any_eq_true'.1 this
                simp only [Bool.and_eq_true, beq_iff_eq] at hb2
                exact hno e he2 hb2.1 hb2.2
              · exact h1.trans ⟨hg2.size, fun k _ hn => (hn (by simpa using her)).elim⟩
            · split at hg2
              · exact h1.trans (Agree.below hg2)
              · rw [hg2]; exact h1
        · have hpos : ∀ j, j ∈ Region.ready .any ops (lst L D) → j = i := by
            intro j hj
            have hjD : j ∉ D := ((lst_un L j D).1 (mem_ready.1 hj).1).2
            have hjA : j ∉ AL := fun hx => hjD ((allIn hDn hDs (by omega) j).2 hx)
            have := ready_lst (D' := AL) hDs hj hjA
            rw [hready] at this
            simpa using this
          have hme : i ∈ Region.ready .any ops (lst L D) := by
            rw [lst_same L (allIn hDn hDs (by omega)), hready]
            simp
          refine ⟨fun h0 => (by rw [h0] at hme; cases hme), fun j hj => ?_⟩
          have := hpos j hj
          subst this
          obtain ⟨c, hc1, xo, hc2⟩ : ∃ c, o.op = .call c ∧ ∃ xo, c.callee = .value xo := by
            cases hop : o.op <;> rw [hop] at hcall <;> simp only [isCall] at hcall <;> try (cases hcall; done)
            rename_i c
            cases hcc : c.callee with
            | value f => exact ⟨c, rfl, f, hcc⟩
            | invoke _ _ => rw [hcc] at hcall; cases hcall
            | builtin _ => rw [hcc] at hcall; cases hcall
          unfold wpOp
          simp only [ho, hw, if_true]
          refine .inl (call_sound (cx := asd cx (D.map blk)) ⟨hC.1, hC.2⟩ (.inl hos) hc1 hc2 h hr ?_)
          intro v s' w' ρ' x hr3 h3 hv hb'
          refine ⟨?_, ?_⟩
          · unfold GS
            rw [ho]
            simp only [grows, hcall, Bool.true_or, if_true]
            rw [if_neg (by rw [hc1]; simp [isStore])]
            exact hb'
          · rw [← lst_set L D (hiD hDs)]
            refine ihl 0 D blk hlen hDn hDs (keepF x hDs ?_) hB hN ((h3.put o.dst hv).clr _) (clr_any _ _) hr3
            intro q hq
            obtain ⟨t, T, inf, zv, e1, e2, e3, e4, e5⟩ := hF q hq
            exact ⟨t, T, inf, zv, e1, e2, e3, e4, by rw [hb'.block _ (Array.getElem?_eq_some_iff.1 e5).1]; exact e5⟩
      · cases hr
    | succ k ih =>
      intro D blk s a w ρ hlen hDn hDs hF hB hN h hany hr
      have hr0 := hr
      simp only [evOpsA, ho] at hr
      split at hr
      · rename_i hg
        have hw : Region.wanted o (yielded ops a.tmps) = true := by simp [Region.wanted, hg]
        rw [show (i :: l).length + (k + 1) + lB.length = (l.length + (k + 1) + lB.length) + 1 by simp only [List.length_cons]; omega]
        rcases hkind with ⟨hrd, hfree, hready, hearly⟩ | ⟨hcall, hready⟩
        · obtain ⟨x, hrun, hn⟩ := evOp_reads (B := fun _ => early ops i = false) (fun T x e _ _ h => by rcases hearly with h1 | h1; exact absurd (h1.symm.trans h) (by simp); rw [e] at h1; exact absurd h1 (by simp [light])) (fun e _ h => by rcases hearly with h1 | h1; exact absurd (h1.symm.trans h) (by simp); unfold light at h1; split at h1; exact absurd h1 (by simp); rw [e] at h1; exact absurd h1 (by simp)) (N := fun a' w' => Facts P ops blk D a' w' → wpAnyG P ops Q (GS ops fun _ => True) (l.length + (k + 1) + lB.length) (lst (L.setIfInBounds i true) D) a' w') hrd h hr (by
            intro v s' w' ρ' x hr3 h3 hv hF'
            exact ihl (k + 1) D blk hlen hDn hDs hF' hB hN ((h3.put o.dst hv).clr _) (clr_any _ _) hr3)
          have hn := hn (keepF x hDs hF)
          rw [lst_set L D (hiD hDs)] at hn
          have hns : isStore o.op = false ∧ grows o.op = false := by
            cases hop : o.op <;> rw [hop] at hrd <;> simp [reads, isStore, grows, isCall, isAlloc] at hrd ⊢
            rename_i c
            cases hcc : c.callee <;> rw [hcc] at hrd <;> simp at hrd ⊢
          refine wpAnyG_first (S := fun w' => Agree (fun _ => early ops i = false) w w') ho (Region.noSelect_spec hsel) (fun c a' w' hq => (hQ c _ w' hq).elim) (fun w => by unfold GS; rw [ho]; simp [hns.1, hns.2]) _ _ a w ?_ ?_ (ready_lst (D := []) (fun _ h => by cases h) hready (hiD hDs)) (.inl ⟨hw, hrun⟩) (Agree.refl _ w) hn
          · intro j oj hj hji hun hno
            exact Region.free_spec ho hfree j oj hj hji ((lst_un L j D).1 hun).1 hno
          · intro j oj hj _ hno w1 w2 h1 hg2
            unfold GS at hg2
            rw [hj] at hg2
            simp only at hg2
            split at hg2
            · rename_i hst
              by_cases her : early ops i = true
              · exfalso
                unfold early at her
                have := Array.all_eq_true_iff_forall_mem.1 her oj (Array.mem_of_getElem? hj)
                rw [hst] at this
                simp only [Bool.not_true, Bool.false_or] at this
                obtain ⟨e, he2, hb2⟩ := Array.any_eq_true'.1 this
                simp only [Bool.and_eq_true, beq_iff_eq] at hb2
                exact hno e he2 hb2.1 hb2.2
              · exact h1.trans ⟨hg2.size, fun k _ hn => (hn (by simpa using her)).elim⟩
            · split at hg2
              · exact h1.trans (Agree.below hg2)
              · rw [hg2]; exact h1
        · obtain ⟨i0, hi0, hi0D⟩ := missing hAn (show D.length < AL.length by omega)
          have hme : i0 ∈ Region.ready .any ops (lst L D) := by
            obtain ⟨t, T, h1⟩ := hAL i0 hi0
            obtain ⟨o', z, ho', _, _, _, haf, _⟩ := aOp_out h1
            refine mem_ready.2 ⟨(lst_un L i0 D).2 ⟨hLA i0 hi0, hi0D⟩, o', ho', fun e he => ?_⟩
            have : e ∈ o'.after.toList := by simpa using he
            rw [haf] at this
            cases this
          refine ⟨fun h0 => (by rw [h0] at hme; cases hme), fun j hj => ?_⟩
          have hjD : j ∉ D := ((lst_un L j D).1 (mem_ready.1 hj).1).2
          by_cases hjA : j ∈ AL
          · obtain ⟨t, T, hjo⟩ := hAL j hjA
            refine alloc_step (cx := cx) hjo hjD ?_ hF hB hN h (hany t (List.mem_map.2 ⟨j, hjA, aTmp_of hjo⟩)) ?_
            · intro i hi t' T' hio
              have := tmps_ne hts i (hDs i hi) j hjA (fun e => hjD (e ▸ hi))
              rwa [aTmp_of hio, aTmp_of hjo] at this
            · intro blk' a' w' hF' hB' hN' h'
              have := ih (j :: D) blk' (by simp only [List.length_cons]; omega) (List.nodup_cons.2 ⟨hjD, hDn⟩) (by intro x hx; rcases List.mem_cons.1 hx with e | hx; exact e ▸ hjA; exact hDs x hx) hF' hB' hN' h' hany hr0
              rw [show (i :: l).length + k + lB.length = l.length + (k + 1) + lB.length by simp only [List.length_cons]; omega] at this
              exact this
          · have := ready_lst (D' := AL) hDs hj hjA
            rw [hready, List.mem_singleton] at this
            subst this
            obtain ⟨c, hc1, xo, hc2⟩ : ∃ c, o.op = .call c ∧ ∃ xo, c.callee = .value xo := by
              cases hop : o.op <;> rw [hop] at hcall <;> simp only [isCall] at hcall <;> try (cases hcall; done)
              rename_i c
              cases hcc : c.callee with
              | value f => exact ⟨c, rfl, f, hcc⟩
              | invoke _ _ => rw [hcc] at hcall; cases hcall
              | builtin _ => rw [hcc] at hcall; cases hcall
            unfold wpOp
            simp only [ho, hw, if_true]
            refine .inl (call_sound (cx := asd cx (D.map blk)) ⟨hC.1, hC.2⟩ (.inl hos) hc1 hc2 h hr ?_)
            intro v s' w' ρ' x hr3 h3 hv hb'
            refine ⟨?_, ?_⟩
            · unfold GS
              rw [ho]
              simp only [grows, hcall, Bool.true_or, if_true]
              rw [if_neg (by rw [hc1]; simp [isStore])]
              exact hb'
            · rw [← lst_set L D (hiD hDs)]
              refine ihl (k + 1) D blk hlen hDn hDs (keepF x hDs ?_) hB hN ((h3.put o.dst hv).clr _) (clr_any _ _) hr3
              intro q hq
              obtain ⟨t, T, inf, zv, e1, e2, e3, e4, e5⟩ := hF q hq
              exact ⟨t, T, inf, zv, e1, e2, e3, e4, by rw [hb'.block _ (Array.getElem?_eq_some_iff.1 e5).1]; exact e5⟩
      · cases hr
end
end Go.Rf
