/- strings.Builder's WriteString and String, exactly: which blocks turn. -/
import Derived.Test.YthpcpofcadpijaaDoorRfV
import Derived.Test.YthpcpofcadpijaaDoorSh
namespace Go.Proofs.YthpcpofcadpijaaDoor
open Go.Rf Go.RowKit Go.Shelf Go.Lib
variable {P : Program} {ρ : Ren}
theorem wpList_append_text {w : World} {ops : Array Oper} {rest : List Oper} {o : Oper} {a : Act} {Q : Exit → Act → World → Prop} (hgd : o.guard = none) (sl x : Operand) (t u : TypeId)
    (ho : o.op = .call { callee := .builtin .append, args := #[sl, x], argTypes := #[t, u] })
    (e : TypeId) (i : TypeInfo) (ht : P.underlying t = some (.slice e)) (hu : P.underlying u = some .string) (hi : P.info? e = some i) (hz : i.zero = some (.int .u8 0))
    (hsize : i.size = 1) (hby : i.bytes = 1)
    (v : Value) (n : Nat) (xs : List Value) (hs : a.eval sl = v) (hown : w.ownsRow 0 e 1 v n xs) (s : ByteArray) (hx : a.eval x = .string s)
    (hbytes : n + s.size ≤ 140737488355328)
    (h : ∀ v' w', w'.ownsRow 0 e 1 v' (n + s.size) (xs ++ strCells s) → w.grownBy w' (hb v) → (∀ k, hb v' = some k → hb v = some k ∨ (w.heap.size ≤ k ∧ k < w'.heap.size)) → wpList P ops Q rest (a.put o.dst v') w') : wpList P ops Q (o :: rest) a w := by
  refine wpList_plain hgd fun K hK => ?_
  obtain ⟨v', w', hr, h2, h3, h4⟩ := run_append_text (P := P) (ty := o.type) (w := w) 0 ht hu hi hz hsize hby hown s hbytes (Nat.zero_le _)
  unfold Oper.wp execOp
  simp only [ho, resolve, invoke, builtin, Sem.run_bind, Sem.run_pure, Result.andThen_ok, List.map_toArray, List.map_cons, List.map_nil, hs, hx, hr]
  exact hK _ _ (h v' w' h2 h3 h4)
set_option maxHeartbeats 1000000 in
set_option maxRecDepth 100000 in
theorem copyCheck_exact (L : Lays.n240 P ρ) (X : Builder.X72 P ρ) (b : Nat) (p v : Value) (w : World) (hbk : w.heap[b]? = some (.cells #[p, v] (ρ.t 72) (0, 0))) (hp : p = .pointer none ∨ p = .pointer (some ⟨b, 0, none⟩)) :
    Calls P (ρ.f 240) #[.pointer (some ⟨b, 0, none⟩)] w fun e w' => e = .returned (.tuple #[]) ∧ w'.heap[b]? = some (.cells #[.pointer (some ⟨b, 0, none⟩), v] (ρ.t 72) (0, 0)) ∧ w'.heap.size = w.heap.size ∧ Bel (fun k => k = b) w w' := by
  have c0 : w.cell? ⟨b, 0, none⟩ = some p := by rw [Lib.cell_of_heap hbk]; rfl
  rcases hp with rfl | rfl
  · refine (Any.Builder_copyCheck_fresh L X b w c0 (by simp [World.shape?, hbk]) (Lib.frozen_of_heap hbk 0)).mono ?_
    rintro e w' ⟨rfl, rfl⟩
    refine ⟨rfl, by simp [World.setCell, Array.getElem?_modify, hbk], by simp [World.setCell], ⟨rfl, rfl, rfl, by simp [World.setCell], fun k _ hk => ?_⟩⟩
    simp only [World.setCell, Array.getElem?_modify]
    rw [if_neg (fun x => hk x.symm)]
  · refine (Any.Builder_copyCheck_used L X b w c0).mono ?_
    rintro e w' ⟨rfl, rfl⟩
    exact ⟨rfl, hbk, rfl, Bel.refl _ _⟩
set_option maxHeartbeats 2000000 in
set_option maxRecDepth 100000 in
theorem write_exact (L : Lays.n166 P ρ) (X : Builder.Extra P ρ) (b : Nat) (p v : Value) (l : List Value) (s : ByteArray) (w : World) (hbk0 : w.heap[b]? = some (.cells #[p, v] (ρ.t 72) (0, 0)))
    (hp : p = .pointer none ∨ p = .pointer (some ⟨b, 0, none⟩)) (hown0 : w.ownsRow 0 (ρ.t 5) 1 v l.length l) (hne0 : hb v ≠ some b) (hlen : l.length + s.size ≤ 140737488355328) :
    Calls P (ρ.f 166) #[.pointer (some ⟨b, 0, none⟩), .string s] w fun e w' => e = .returned (.tuple #[.int .i64 s.size, .nilIface]) ∧ ∃ v', w'.ownsRow 0 (ρ.t 5) 1 v' (l.length + s.size) (l ++ Lib.strCells s) ∧
        w'.heap[b]? = some (.cells #[.pointer (some ⟨b, 0, none⟩), v'] (ρ.t 72) (0, 0)) ∧ Bel (fun k => k = b ∨ hb v = some k) w w' ∧ ∀ k, hb v' = some k → hb v = some k ∨ (w.heap.size ≤ k ∧ k < w'.heap.size) := by
  obtain ⟨i0, hi, hz0, hz1, hz2⟩ := info_parts X.infoByte
  have mixed := L.mixed
  have t72 := L.t72; have a72 := L.a72; have z72 := L.z72; have v72 := L.v72; have u72 := run_underlying L.t72
  have t70 := L.t70; have a70 := L.a70; have z70 := L.z70; have v70 := L.v70; have u70 := run_underlying L.t70
  have t37 := L.t37; have a37 := L.a37; have z37 := L.z37; have v37 := L.v37; have u37 := run_underlying L.t37
  have t3 := L.t3; have a3 := L.a3; have z3 := L.z3; have v3 := L.v3; have u3 := run_underlying L.t3
  have t9 := L.t9; have a9 := L.a9; have z9 := L.z9; have v9 := L.v9; have u9 := run_underlying L.t9
  have t4 := L.t4; have a4 := L.a4; have z4 := L.z4; have v4 := L.v4; have u4 := run_underlying L.t4
  have t164 := L.t164; have a164 := L.a164; have z164 := L.z164; have v164 := L.v164; have u164 := run_underlying L.t164
  have t5 := X.t5; have a5 := X.a5; have z5 := X.z5; have v5 := X.v5; have u5 := run_underlying X.t5
  have e240 : ∀ args w, (callFunc (ρ.f 240) args).run P w = .ok (.enter (ρ.f 240) args) w := enters_of L.f240 (by kernel_rfl) rfl
  go_enter L.f166, Body.n166_ntmps ρ
  go_wp2_with (go_at_fn (ρ.f 240); refine (copyCheck_exact { L with } X.toX72 b p v _ hbk0 hp).mono ?_)
  rintro e w1 ⟨rfl, hbk, hsz1, hb1⟩
  have hblk1 : ∀ k, hb v = some k → w1.heap[k]? = w.heap[k]? := fun k hk => hb1.block k (by
    rcases hown0.2 with ⟨e0, _⟩ | ⟨g, cap, cur, e0, _, hg, _⟩
    · rw [e0] at hk; cases hk
    · rw [e0] at hk; cases hk; exact (Array.getElem?_eq_some_iff.1 hg).1) (fun x => hne0 (x ▸ hk))
  have hown : w1.ownsRow 0 (ρ.t 5) 1 v l.length l := by
    refine ⟨hown0.1, ?_⟩
    rcases hown0.2 with h | ⟨g, cap, cur, e0, r0, hg, r⟩
    · exact .inl h
    · exact .inr ⟨g, cap, cur, e0, r0, by rw [hblk1 g (by rw [e0]; rfl)]; exact hg, r⟩
  have c0 : w1.cell? ⟨b, 0, none⟩ = some (.pointer (some ⟨b, 0, none⟩)) := by rw [Lib.cell_of_heap hbk]; rfl
  have c1 : w1.cell? ⟨b, 1, none⟩ = some v := by rw [Lib.cell_of_heap hbk]; rfl
  go_wp2_with (at_builtin; refine wpList_append_text rfl _ _ (ρ.t 37) (ρ.t 9) rfl (ρ.t 5) i0 L.t37 L.t9 hi hz0 hz1 hz2 _ _ _ rfl hown s rfl hlen ?_)
  intro v' w2 hown' hgrow hnew
  have hlt : b < w1.heap.size := (Array.getElem?_eq_some_iff.1 hbk).1
  have hb2 : w2.heap[b]? = some (.cells #[.pointer (some ⟨b, 0, none⟩), v] (ρ.t 72) (0, 0)) := by
    rw [hgrow.block b hlt (fun e => hne0 e.symm)]
    exact hbk
  have d0 : w2.cell? ⟨b, 0, none⟩ = some (.pointer (some ⟨b, 0, none⟩)) := by rw [Lib.cell_of_heap hb2]; rfl
  have d1 : w2.cell? ⟨b, 1, none⟩ = some v := by rw [Lib.cell_of_heap hb2]; rfl
  have f1 : w2.frozen? ⟨b, 1, none⟩ = false := Lib.frozen_of_heap hb2 1
  obtain ⟨ao, n', cap, rfl⟩ : ∃ ao n' cap, v' = .slice ao n' cap := by
    rcases hown'.2 with ⟨hv, _⟩ | ⟨g, cap, cur, hv, _⟩
    · exact ⟨_, _, _, hv⟩
    · exact ⟨_, _, _, hv⟩
  go_wp2
  go_ret2
  have hne2 : hb (.slice ao n' cap) ≠ some b := fun hh => by
    rcases hnew b hh with h1 | ⟨h1, _⟩
    · exact hne0 h1
    · omega
  have hblk : ∀ k, k ≠ b → (w2.setCell ⟨b, 1, none⟩ (.slice ao n' cap)).heap[k]? = w2.heap[k]? := fun k hk => by
    simp only [World.setCell, Array.getElem?_modify]
    rw [if_neg (fun x => hk x.symm)]
  refine ⟨rfl, .slice ao n' cap, ⟨hown'.1, ?_⟩, by simp [World.setCell, Array.getElem?_modify, hb2], ⟨hgrow.os.trans hb1.os, hgrow.tape.trans hb1.tape, hgrow.output.trans hb1.output, by simpa [World.setCell, ← hsz1] using hgrow.size, fun k hk hn => ?_⟩, fun k hk => ?_⟩
  · rcases hown'.2 with h | ⟨g, c, cur, e0, r0, hg, r⟩
    · exact .inl h
    · exact .inr ⟨g, c, cur, e0, r0, by rw [hblk g (fun x => hne2 (by rw [e0, x]; rfl))]; exact hg, r⟩
  · rw [hblk k (fun x => hn (.inl x)), hgrow.block k (by omega) (fun x => hn (.inr x.symm))]
    exact hb1.block k hk (fun x => hn (.inl x))
  · rcases hnew k hk with h1 | ⟨h1, h2⟩
    · exact .inl h1
    · exact .inr ⟨by omega, by simpa [World.setCell] using h2⟩
set_option maxHeartbeats 1000000 in
set_option maxRecDepth 100000 in
theorem string_some {b g cap : Nat} {cur : Array Value} {p : Value} {l : List UInt8} {w : World} (h0 : l ≠ []) (hbk : w.heap[b]? = some (.cells #[p, .slice (some ⟨g, 0, none⟩) l.length cap] 103 (0, 0))) (hg : w.heap[g]? = some (.cells cur 5 (0, 0)))
    (hnc : l.length ≤ cap) (hcm : cap ≤ maxLen) (hcs : cur.size = cap * 1) (htake : cur.toList.take (l.length * 1) = Lib.byteCells l) :
    Calls Tryd.prog 43 #[.pointer (some ⟨b, 0, none⟩)] w fun e w' => e = .returned (.string ⟨l.toArray⟩) ∧ w' = w.drew.freeze ⟨g, 0, none⟩ l.length := by
  have hl0 : l.length ≠ 0 := by simpa using h0
  have c1 : w.drew.cell? ⟨b, 1, none⟩ = some (.slice (some ⟨g, 0, none⟩) l.length cap) := by
    have h : w.drew.heap[b]? = some (.cells #[p, .slice (some ⟨g, 0, none⟩) l.length cap] 103 (0, 0)) := hbk
    rw [Lib.cell_of_heap h]; rfl
  have hg' : w.drew.heap[g]? = some (.cells cur 5 (0, 0)) := hg
  have hSD : (Builtin.unsafeSliceData_ #[101] 134 #[.slice (some ⟨g, 0, none⟩) l.length cap]).run Tryd.prog w.drew = .ok (.pointer (some ⟨g, 0, none⟩)) w.drew :=
    Lib.run_unsafeSliceData_row _ _ _ _ _ _ (by omega)
  have hUS : (Builtin.unsafeString_ #[134, 3] 9 #[.pointer (some ⟨g, 0, none⟩), .int .i64 l.length]).run Tryd.prog w.drew = .ok (.string ⟨l.toArray⟩) (w.drew.freeze ⟨g, 0, none⟩ l.length) := by
    refine Lib.run_unsafeString_row w.drew 134 3 9 5 Tryd.lays169.t127 Tryd.Builder_Extra_169.cellsByte g cur.size (by simp [World.shape?, hg']) l h0 (by omega) (by unfold maxLen at hcm; omega) ?_
    intro j x hx
    have h := congrArg (fun z => z[j]?) htake
    have hj : j < l.length := (List.getElem?_eq_some_iff.1 hx).1
    simp only [Nat.mul_one, List.getElem?_take, hj, if_true, Lib.byteCells, List.getElem?_map, hx, Option.map_some] at h
    have ha : (⟨g, 0, none⟩ : Addr).add j = ⟨g, j, none⟩ := by simp [Addr.add]; exact fun h => h.symm
    rw [ha, Lib.cell_of_heap hg']
    simpa using h
  have mixed := Tryd.lays169.mixed
  go_enter Tryd.func43, Tryd.ntmps43
  go_wp2
  go_region_o
  all_goals (go_wp2; go_ret; exact ⟨rfl, rfl⟩)
theorem string_exact (b : Nat) (p v : Value) (s : ByteArray) (w : World) (hbk : w.heap[b]? = some (.cells #[p, v] 103 (0, 0))) (hown : w.ownsRow 0 5 1 v s.size (Lib.strCells s)) (_ : hb v ≠ some b) :
    Calls Tryd.prog 43 #[.pointer (some ⟨b, 0, none⟩)] w fun e w' => e = .returned (.string s) ∧ Bel (fun k => hb v = some k) w w' := by
  by_cases h0 : s.size = 0
  · have hs : s = ⟨#[]⟩ := by
      obtain ⟨d⟩ := s
      have : d = #[] := Array.eq_empty_of_size_eq_zero h0
      rw [this]
    subst hs
    have key : Calls Tryd.prog 43 #[.pointer (some ⟨b, 0, none⟩)] w fun e w' => e = .returned (.string ⟨#[]⟩) ∧ Below w.heap.size w w' := by
      rcases hown.2 with ⟨rfl, _⟩ | ⟨g, cap, cur, rfl, hbg, hg, _, _, _, _⟩
      · exact Any.Builder_String_nil Tryd.lays169 Tryd.Builder_Extra_169 w.heap.size b p w hbk
      · by_cases hc0 : cap = 0
        · subst hc0
          exact Any.Builder_String_noroom Tryd.lays169 Tryd.Builder_Extra_169 w.heap.size b g p cur w (Nat.le_refl _) hbk hg
        · exact Any.Builder_String_room Tryd.lays169 Tryd.Builder_Extra_169 w.heap.size b g cap p w hc0 hbk
    exact key.mono fun e w' ⟨he, hw⟩ => ⟨he, Bel.of hw⟩
  · rcases hown.2 with ⟨_, hz⟩ | ⟨g, cap, cur, rfl, _, hg, hnc, hcm, hcs, htake⟩
    · exact absurd hz h0
    · have hsz : s.size = s.data.toList.length := by simp
      rw [hsz] at hbk hnc htake
      refine (string_some (l := s.data.toList) (by intro e; rw [e] at hsz; exact h0 hsz) hbk hg hnc hcm hcs (by simpa [Lib.byteCells, Lib.strCells] using htake)).mono fun e w' ⟨he, hw⟩ => ⟨by rw [he], ?_⟩
      subst hw
      refine ⟨?_, ?_, ?_, ?_, fun k _ hk => ?_⟩
      · unfold World.freeze; split <;> rfl
      · unfold World.freeze; split <;> rfl
      · unfold World.freeze; split <;> rfl
      · unfold World.freeze; split <;> simp
      · unfold World.freeze
        split
        · rfl
        · simp only [Array.getElem?_modify]
          rw [if_neg (fun x => hk (by rw [← x]; rfl))]
          rfl
theorem ok41 {W0 : World} (u : Bool) : OOK Tryd.prog W0 (writeE 41 103 5 u) := write_ok u Tryd.func41 (by kernel_rfl) (by kernel_rfl) fun b p v l s w h1 h2 h3 h4 h5 => write_exact (ρ := Tryd.lays156_ren) { Tryd.lays156 with } Tryd.Builder_Extra_156 b p v l s w h1 h2 h3 h4 h5
theorem ok43 {W0 : World} (u : Bool) : OOK Tryd.prog W0 (stringE 43 103 5 u) := string_ok u Tryd.func43 (by kernel_rfl) (by kernel_rfl) string_exact

noncomputable def f41z (_ : Nat) (s : ByteArray) (_ : List Unit) (l : List Int) : Option (Unit × ((Unit × (Unit × List Unit)) × (List Int × Unit))) := (writeF l s).map fun l => ((), (((), ((), [])), (l, ())))
noncomputable def f41u (_ : Nat) (s : ByteArray) (_ : List Unit) (l : List Int) : Option (Unit × ((Unit × (Unit × List Unit)) × (List Int × Unit))) := (writeF l s).map fun l => ((), (((), ((), [])), (l, ())))
noncomputable def f43z (_ : Nat) (_ : List Unit) (l : List Int) : Option (ByteArray × ((Unit × (Unit × List Unit)) × Unit)) := (textF l).map fun s => (s, (((), ((), [])), ()))
noncomputable def f43u (_ : Nat) (_ : List Unit) (l : List Int) : Option (ByteArray × ((Unit × (Unit × List Unit)) × Unit)) := (textF l).map fun s => (s, (((), ((), [])), ()))
noncomputable def e41z (_ : Nat) : OE := writeE 41 103 5 false
noncomputable def e41u (_ : Nat) : OE := writeE 41 103 5 true
noncomputable def e43z (_ : Nat) : OE := stringE 43 103 5 false
noncomputable def e43u (_ : Nat) : OE := stringE 43 103 5 true
theorem ok41z {W0 : World} (n : Nat) : OOK Tryd.prog W0 (e41z n) := ok41 false
theorem ok41u {W0 : World} (n : Nat) : OOK Tryd.prog W0 (e41u n) := ok41 true
theorem ok43z {W0 : World} (n : Nat) : OOK Tryd.prog W0 (e43z n) := ok43 false
theorem ok43u {W0 : World} (n : Nat) : OOK Tryd.prog W0 (e43u n) := ok43 true
end Go.Proofs.YthpcpofcadpijaaDoor
