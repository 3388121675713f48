/- From a row's reading of the arguments to data; from a function to a law's row. -/
import Derived.Test.YthdddaikdiaijaaDoorRfQ
import Derived.OpenShut
import Derived.ProofKit
import Derived.ShutString
import Derived.ChangeOld
import Derived.SizedLaws
import Derived.RowKit
namespace Go.Rf
open Go.RowKit (Below)
open Go.WideShapes Go.ChangeShapes Go.ChangeAt
/-- The type's layout is as data read it. -/
def lay (P : Program) : Nat → TypeId → Bool
  | 0, _ => false
  | n + 1, T =>
    match P.underlying T with
    | some (.slice E) => lay P n E && decide (0 < P.cellsOf E)
    | some (.array m E) => lay P n E && decide (P.cellsOf T = m * P.cellsOf E)
    | some (.struct fs) => (fs.toList.all fun f => lay P n f.type) && offs P 0 fs.toList (P.cellsOf T)
    | _ => true
/-- What is known of data that came in. -/
def Wf (P : Program) : (t : Ty) → t.den → Prop
  | .int k, n => (Lit.int k n).wf = true
  | .bool, _ => True
  | .str, s => s.size ≤ reachBytes
  | .unit, _ => True
  | .nilp, _ => True
  | .fn _, _ => True
  | .ifc, _ => True
  | .pair a b, x => Wf P a x.1 ∧ Wf P b x.2
  | .agg t, x => Wf P t x
  | .arr n t, l => l.length = n ∧ ∀ x ∈ l, Wf P t x
  | .sl E t, l => l.length ≤ maxLen ∧ (∀ x ∈ l, Wf P t x) ∧ l.length * P.bytesOf E ≤ reachBytes
theorem mem_weightsAll {H : Type} {P : Program} {E : TypeId} : ∀ {l : List (DataW H)} {d : DataW H}, d ∈ l → ∀ k ∈ d.weights P E, k ∈ DataW.weightsAll P E l
  | x :: l, d, h, k, hk => by
    simp only [DataW.weightsAll, List.mem_append]
    rcases List.mem_cons.1 h with rfl | h
    · exact .inl hk
    · exact .inr (mem_weightsAll h k hk)
theorem cells?_out {w : World} {base : Nat} {a : Addr} {n : Nat} {cs : List Value} (h : w.cells? base a n = some cs) : cs.length = n ∧ ∀ i u, cs[i]? = some u → w.cell? (a.add i) = some u := by
  unfold World.cells? at h
  split at h
  · have key : ∀ (l : List Nat) (cs : List Value), l.mapM (fun i => w.cell? (a.add i)) = some cs → cs.length = l.length ∧ ∀ (i : Nat) (u : Value), cs[i]? = some u → ∃ j : Nat, l[i]? = some j ∧ w.cell? (a.add j) = some u := by
      intro l
      induction l with
      | nil => intro cs h; simp at h; subst h; exact ⟨rfl, fun i u h => by simp at h⟩
      | cons j l ih =>
        intro cs h
        simp only [List.mapM_cons, Option.bind_eq_bind, Option.pure_def] at h
        cases hj : w.cell? (a.add j) with
        | none => rw [hj] at h; cases h
        | some v =>
          rw [hj] at h
          simp only [Option.bind_some] at h
          cases hr : l.mapM (fun i => w.cell? (a.add i)) with
          | none => rw [hr] at h; cases h
          | some rest =>
            rw [hr] at h
            cases h
            obtain ⟨h1, h2⟩ := ih rest hr
            refine ⟨by simp [h1], fun i u hu => ?_⟩
            cases i with
            | zero => simp at hu; subst hu; exact ⟨j, rfl, hj⟩
            | succ i => simp at hu; simpa using h2 i u hu
    obtain ⟨h1, h2⟩ := key _ _ h
    refine ⟨by simpa using h1, fun i u hu => ?_⟩
    obtain ⟨j, hj, hc⟩ := h2 i u hu
    have hi : i < n := by have := (List.getElem?_eq_some_iff.1 hu).1; simp at h1; omega
    rw [List.getElem?_range hi] at hj
    cases hj
    exact hc
  · cases h
section
variable {H : Type} {enc : TypeId × Value → H} {P : Program} {w : World} {spare : Nat → Bool} {held : Bool}
theorem Row.join {α : Type} {R : α → List Value → Prop} {k : Nat} : ∀ (n : Nat) (cs : List Value), cs.length = n * k → (∀ i, i < n → ∃ x, R x ((cs.drop (i * k)).take k)) → ∃ l : List α, l.length = n ∧ Row R l cs
  | 0, cs, hl, _ => ⟨[], rfl, List.eq_nil_of_length_eq_zero (by simpa using hl)⟩
  | n + 1, cs, hl, h => by
    obtain ⟨x, hx⟩ := h 0 (by omega)
    have hle : k ≤ cs.length := by rw [hl, Nat.add_mul]; omega
    obtain ⟨l, h1, h2⟩ := Row.join n (k := k) (cs.drop k) (by simp [hl, Nat.add_mul]) (fun i hi => by
      obtain ⟨y, hy⟩ := h (i + 1) (by omega)
      refine ⟨y, ?_⟩
      rw [List.drop_drop]
      rw [show k + i * k = (i + 1) * k from by rw [Nat.add_mul]; omega]
      exact hy)
    refine ⟨x :: l, by simp [h1], cs.take k, cs.drop k, (List.take_append_drop _ _).symm, ?_, h2⟩
    simpa using hx
theorem open_data : ∀ (n : Nat) (T : TypeId) (t : Ty), tyOf P n T = some t → lay P n T = true → ∀ (fuel : Nat) (cs : List Value) (x : DataW H × List MemPlace), DataW.trod enc P w 0 spare held fuel T cs = some x → (∀ k ∈ x.1.weights P T, k ≤ reachBytes) →
    ∃ y : t.den, DR w (fun _ => False) t y cs ∧ Wf P t y
  | 0, _, _, h, _, _, _, _, _, _ => by cases h
  | n + 1, T, t, ht, hl, fuel, cs, x, hx, hg => by
    have ih := open_data n
    unfold tyOf at ht
    unfold lay at hl
    cases hu : P.underlying T with
    | none => rw [hu] at ht; cases ht
    | some d =>
      rw [hu] at ht hl
      cases d <;> simp only at ht hl <;> try (cases ht; done)
      case bool =>
        cases ht
        obtain ⟨b, rfl, _⟩ := DataW.trod_bool hu hx
        exact ⟨b, rfl, trivial⟩
      case int k =>
        cases ht
        obtain ⟨m, rfl, _, hw⟩ := DataW.trod_int hu hx
        exact ⟨m, rfl, hw⟩
      case string =>
        cases ht
        obtain ⟨s, rfl, hx2, hs⟩ := DataW.trod_string hu hx
        refine ⟨s, rfl, ?_⟩
        have := hg s.data.toList.length (by rw [hx2]; simp [DataW.weights])
        simpa [Wf] using this
      case slice E =>
        simp only [Bool.and_eq_true, decide_eq_true_eq] at hl
        cases hE : tyOf P n E with
        | none => rw [hE] at ht; cases ht
        | some u =>
          rw [hE] at ht
          cases ht
          rcases DataW.trod_slice hu hx with ⟨rfl, _⟩ | ⟨a, len, cap, elems, rest, m, _, rfl, hx2, _, hle, hmax, hlen, hel, _⟩
          · exact ⟨[], ⟨none, 0, rfl, Nat.le_refl _, fun h => (h rfl).elim⟩, by simp [maxLen], (fun x hx => by cases hx), by simp⟩
          · have hwt : ∀ d ∈ elems, ∀ k ∈ d.1.weights P E, k ≤ reachBytes := by
              intro d hd k hk
              refine hg k ?_
              rw [hx2]
              simp only [DataW.weights, hu, List.mem_cons, List.mem_append]
              exact .inr (.inl (mem_weightsAll (List.mem_map_of_mem hd) k hk))
            have hbytes : len * P.bytesOf E ≤ reachBytes := by
              have := hg ((elems.length + rest.length) * P.bytesOf E) (by rw [hx2]; simp [DataW.weights, hu])
              have h2 : len * P.bytesOf E ≤ (elems.length + rest.length) * P.bytesOf E := Nat.mul_le_mul_right _ (by omega)
              omega
            have each : ∀ i, i < len → ∃ (y : u.den) (c : List Value), DR w (fun _ => False) u y c ∧ Wf P u y ∧ c.length = P.cellsOf E ∧ ∀ j v, c[j]? = some v → w.cell? ((a.add (i * P.cellsOf E)).add j) = some v := by
              intro i hi
              have h1 := hel i hi
              have hi' : i < elems.length := by omega
              rw [List.getElem?_eq_getElem hi'] at h1
              cases hc : w.cells? 0 (a.add (i * P.cellsOf E)) (P.cellsOf E) with
              | none => rw [hc] at h1; cases h1
              | some c =>
                rw [hc] at h1
                obtain ⟨hcl, hcc⟩ := cells?_out hc
                obtain ⟨y, hy, hw⟩ := ih E u hE hl.1 m c _ h1 (hwt _ (List.getElem_mem hi'))
                exact ⟨y, c, hy, hw, hcl, hcc⟩
            by_cases h0 : len = 0
            · subst h0
              exact ⟨[], ⟨some a, cap, rfl, Nat.zero_le _, fun h => (h rfl).elim⟩, by simp [maxLen], (fun x hx => by cases hx), by simp⟩
            · obtain ⟨y0, c0, hd0, _, hc0, hr0⟩ := each 0 (by omega)
              -- the row's address
              have hsp : a.spot = none := by
                have hpos : 0 < c0.length := by rw [hc0]; exact hl.2
                have := hr0 0 c0[0] (by simp [hpos])
                have e : ((a.add (0 * P.cellsOf E)).add 0) = a := by simp [Addr.add]
                rw [e] at this
                unfold World.cell? at this
                cases hs : a.spot with
                | none => rfl
                | some _ => rw [hs] at this; split at this <;> simp at this
              obtain ⟨b, off, sp⟩ := a
              simp only at hsp
              subst hsp
              have hlt : b < w.heap.size := by
                have hpos : 0 < c0.length := by rw [hc0]; exact hl.2
                have := hr0 0 c0[0] (by simp [hpos])
                have := World.block_lt_of_cell? w _ this
                simpa [add_at] using this
              have key : ∀ m, m ≤ len → ∃ (l : List u.den) (css : List Value), l.length = m ∧ Row (DR w (fun _ => False) u) l css ∧ css.length = m * P.cellsOf E ∧ Cells w b off css ∧ ∀ x ∈ l, Wf P u x := by
                intro m
                induction m with
                | zero => intro _; exact ⟨[], [], rfl, rfl, by simp, fun j v hv => by simp at hv, fun x hx => by cases hx⟩
                | succ m ihm =>
                  intro hm
                  obtain ⟨l, css, h1, h2, h3, h4, h5⟩ := ihm (by omega)
                  obtain ⟨y, c, hd, hw, hcl, hr⟩ := each m (by omega)
                  refine ⟨l ++ [y], css ++ c, by simp [h1], h2.append ⟨c, [], by simp, hd, rfl⟩, by rw [List.length_append, h3, hcl, Nat.add_mul]; omega, h4.join ?_, ?_⟩
                  · intro j v hv
                    have := hr j v hv
                    rw [add_at, add_at] at this
                    rw [h3]
                    rw [show off + m * P.cellsOf E + j = off + m * P.cellsOf E + j from rfl]
                    exact this
                  · intro x hx
                    rcases List.mem_append.1 hx with hx | hx
                    · exact h5 x hx
                    · simp at hx; subst hx; exact hw
              obtain ⟨l, css, h1, h2, _, h4, h5⟩ := key len (Nat.le_refl _)
              exact ⟨l, ⟨some ⟨b, off, none⟩, cap, by rw [h1], by omega, fun _ => ⟨b, off, css, rfl, fun h => h, hlt, h2, h4⟩⟩, by omega, h5, by rw [h1]; exact hbytes⟩
      case array m E =>
        simp only [Bool.and_eq_true, decide_eq_true_eq] at hl
        cases hE : tyOf P n E with
        | none => rw [hE] at ht; cases ht
        | some u =>
          rw [hE] at ht
          cases ht
          obtain ⟨xs, k, _, hx2, hcl, hxl, hel⟩ := DataW.trod_array hu hx
          obtain ⟨l, h1, h2⟩ := Row.join (R := fun y c => DR w (fun _ => False) u y c ∧ Wf P u y) (k := P.cellsOf E) m cs (by rw [hcl, hl.2]) (fun i hi => by
            have h1 := hel i hi
            have hi' : i < xs.length := by omega
            rw [List.getElem?_eq_getElem hi'] at h1
            obtain ⟨y, hy, hw⟩ := ih E u hE hl.1 k _ _ h1 (fun q hq => hg q (by
              rw [hx2]
              simp only [DataW.weights, hu]
              exact mem_weightsAll (List.mem_map_of_mem (List.getElem_mem hi')) q hq))
            exact ⟨y, hy, hw⟩)
          refine ⟨l, ⟨h1, h2.mono fun _ _ h => h.1⟩, h1, ?_⟩
          clear h1
          have all : ∀ {l : List u.den} {cs : List Value}, Row (fun y c => DR w (fun _ => False) u y c ∧ Wf P u y) l cs → ∀ x ∈ l, Wf P u x := by
            intro l
            induction l with
            | nil => intro cs _ x hx; cases hx
            | cons y l ih =>
              rintro cs ⟨_, _, _, hy, hr⟩ x hx
              rcases List.mem_cons.1 hx with e | hx
              · subst e; exact hy.2
              · exact ih hr x hx
          exact all h2
      case struct fs =>
        simp only [Bool.and_eq_true, List.all_eq_true] at hl
        cases hE : tys (tyOf P n) (fs.toList.map (·.type)) with
        | none => rw [hE] at ht; cases ht
        | some u =>
          rw [hE] at ht
          cases ht
          obtain ⟨xs, k, _, hx2, hcl, hxl, hel⟩ := DataW.trod_struct hu hx
          have each : ∀ f ∈ fs.toList, ∃ x, DataW.trod enc P w 0 spare held k f.type ((cs.drop f.offset).take (P.cellsOf f.type)) = some x ∧ ∀ q ∈ x.1.weights P f.type, q ≤ reachBytes := by
            intro f hf
            obtain ⟨i, hi⟩ := List.getElem?_of_mem hf
            have h1 := hel i f (by simpa using hi)
            have hi' : i < xs.length := by
              have := (List.getElem?_eq_some_iff.1 hi).1
              simp at this
              omega
            rw [List.getElem?_eq_getElem hi'] at h1
            refine ⟨_, h1, fun q hq => hg q ?_⟩
            rw [hx2]
            simp only [DataW.weights, hu]
            exact DataW.weights_mem_each (j := i) (by simp only [List.getElem?_map, hi, Option.map_some]) (by simp only [List.getElem?_map, List.getElem?_eq_getElem hi', Option.map_some]) q hq
          have key : ∀ (l : List Field) (acc : Nat) (u : Ty), (∀ f ∈ l, f ∈ fs.toList) → tys (tyOf P n) (l.map (·.type)) = some u → offs P acc l (P.cellsOf T) = true →
              ∃ y : u.den, DR w (fun _ => False) u y (cs.drop acc) ∧ Wf P u y := by
            intro l
            induction l with
            | nil =>
              intro acc u _ hu2 ho
              simp only [List.map_nil, tys] at hu2
              cases hu2
              simp only [offs, beq_iff_eq] at ho
              exact ⟨(), by simp only [DR]; rw [ho, ← hcl]; simp, trivial⟩
            | cons f l ihl =>
              intro acc u hmem hu2 ho
              simp only [offs, Bool.and_eq_true, beq_iff_eq] at ho
              obtain ⟨x, hx, hxg⟩ := each f (hmem f (by simp))
              rw [ho.1] at hx
              have hlf := hl.1 f (hmem f (by simp))
              cases l with
              | nil =>
                simp only [List.map_cons, List.map_nil, tys] at hu2
                obtain ⟨y, hy, hw⟩ := ih f.type u hu2 hlf k _ _ hx hxg
                refine ⟨y, ?_, hw⟩
                have h2 := ho.2
                simp only [offs, beq_iff_eq] at h2
                rw [List.take_of_length_le (by simp; omega)] at hy
                exact hy
              | cons g l =>
                simp only [List.map_cons, tys] at hu2
                cases hf : tyOf P n f.type with
                | none => rw [hf] at hu2; cases hu2
                | some u1 =>
                  rw [hf] at hu2
                  simp only [Option.bind_some] at hu2
                  cases hr : tys (tyOf P n) (g.type :: l.map (·.type)) with
                  | none => rw [hr] at hu2; cases hu2
                  | some u2 =>
                    rw [hr] at hu2
                    cases hu2
                    obtain ⟨y, hy, hw⟩ := ih f.type u1 hf hlf k _ _ hx hxg
                    obtain ⟨z, hz, hwz⟩ := ihl (acc + P.cellsOf f.type) u2 (fun q hq => hmem q (by simp [hq])) (by simpa using hr) ho.2
                    refine ⟨(y, z), ⟨(cs.drop acc).take (P.cellsOf f.type), cs.drop (acc + P.cellsOf f.type), ?_, hy, hz⟩, hw, hwz⟩
                    rw [← List.drop_drop, List.take_append_drop]
          obtain ⟨y, hy, hw⟩ := key fs.toList 0 u (fun _ h => h) hE hl.2
          exact ⟨y, by simpa [DR] using hy, hw⟩
def agg? (P : Program) (T : TypeId) : Bool := isAggT P T
/-- One argument. -/
theorem open_arg {T : TypeId} {t : Ty} (ht : tyOf P 12 T = some t) (hl : lay P 12 T = true) {r : Reach} {b0 : Nat} {v : Value} (hv : Value.okWide P w r b0 T v) {d : DataW H} {ps : List MemPlace} (h : DataW.Trod enc P w 0 spare held T v d ps) (hg : ∀ k ∈ d.weights P T, k ≤ reachBytes) :
    ∃ y : t.den, TV w (fun _ => False) t y v ∧ Wf P t y := by
  obtain ⟨fuel, hf⟩ := h
  obtain ⟨y, hy, hw⟩ := open_data 12 T t ht hl fuel _ _ hf hg
  refine ⟨y, ?_, hw⟩
  have hu : ∃ d, P.underlying T = some d := by
    unfold tyOf at ht
    cases h : P.underlying T with
    | none => rw [h] at ht; cases ht
    | some d => exact ⟨d, rfl⟩
  obtain ⟨d, hu⟩ := hu
  have ht' := ht
  unfold tyOf at ht
  rw [hu] at ht
  unfold TV
  cases d <;> simp only at ht <;> try (cases ht; done)
  case bool => cases ht; obtain ⟨b, rfl⟩ := okWide_bool hu hv; exact hy
  case int k => cases ht; obtain ⟨n, rfl⟩ := okWide_int hu hv; exact hy
  case string => cases ht; obtain ⟨s, rfl⟩ := okWide_string hu hv; exact hy
  case slice E =>
    obtain ⟨a, l, c, rfl⟩ := okWide_slice hu hv
    cases hE : tyOf P 11 E with
    | none => rw [hE] at ht; cases ht
    | some u => rw [hE] at ht; cases ht; exact hy
  case array m E =>
    have hv2 : ∃ cs, v = .agg cs := by
      unfold Value.okWide at hv
      rw [hu] at hv
      obtain ⟨cs, e, _⟩ := hv
      exact ⟨cs, e⟩
    obtain ⟨cs, rfl⟩ := hv2
    cases hE : tyOf P 11 E with
    | none => rw [hE] at ht; cases ht
    | some u => rw [hE] at ht; cases ht; exact ⟨cs.toList, by simp, hy⟩
  case struct fs =>
    obtain ⟨cs, rfl, _⟩ := okWide_struct hu hv
    cases hE : tys (tyOf P 11) (fs.toList.map (·.type)) with
    | none => rw [hE] at ht; cases ht
    | some u => rw [hE] at ht; cases ht; exact ⟨cs.toList, by simp, hy⟩
end
end Go.Rf
