/- All waits of a plan, and how long they are together, are told alike. -/
import Derived.Test.YtnlnfmakcnadlaaLRetry
namespace Go.Proofs.Ytnlnfmakcnadlaa
open Go.Rf
theorem maxBytes_eq : Go.Rf.maxBytes = 140737488355328 := rfl
/-- The wait behind a try, as the program tells it. -/
noncomputable def wv (n : Nat) (r : Plan) (seed a : Int) : Int := ((f37 n r a seed).map (·.1)).getD 0
theorem wv_go {n : Nat} (hn : 200 ≤ n) {r : Plan} (hb : i64 r.1) (hm : i64 r.2.1) (hok : planOK r = true) {a : Int} (ha : 1 ≤ a) (seed : Int) :
    ∃ more, f37 n r a seed = some (wv n r seed a, more, 0) ∧ f38 n r a seed = some (wv n r seed a, more, 0) ∧ i64 (wv n r seed a) := by
  obtain ⟨v, more, e, h1, h2, h3, h4⟩ := waits_alike hn hb hm (a := a) (seed := seed)
  have he := h4 hok ha
  subst he
  have hv : wv n r seed a = v := by unfold wv; rw [h1]; rfl
  obtain ⟨_, h5, h6⟩ := h3 rfl
  have := hm.2
  rw [hv]
  exact ⟨more, h1, h2, by omega, by omega⟩
/-- Without a part that is taken away the seed changes nothing. -/
theorem bare_seed {n : Nat} (hn : 200 ≤ n) {r : Plan} (hb : i64 r.1) (hm : i64 r.2.1) (hok : planOK r = true) (hs : r.2.2.2 = 0) {a : Int} (ha : 1 ≤ a) (seed seed' : Int) :
    f37 n r a seed = f37 n r a seed' := by
  obtain ⟨p1, p2, p3, p4, p5, p6⟩ := of_decide_eq_true hok
  rw [f37_eq n r a seed, f37_eq n r a seed', check_go, hok]
  simp only [Option.bind_some, cond_true, bne_self_eq_false, cond_false]
  by_cases h2 : a ≥ r.2.2.1
  · simp only [decide_eq_false (show ¬ a < 1 by omega), decide_eq_true h2, cond_true, cond_false]
  · have hm2 := hm.2
    obtain ⟨W, w1, w2, w3⟩ := double_val (show 66 ≤ n by omega) (times := a - 1) hb hm p1 p2 (by omega)
    obtain ⟨F, hF, hG, hB⟩ := mix_nat
    have h0 : ∀ s, f76 n W ((0 : Nat) : Int) a s = some 0 := by
      intro s
      have hF1 := hF n (IntKind.u64.wrap (s + IntKind.u64.wrap a))
      have hMl := hB (IntKind.u64.wrap (s + IntKind.u64.wrap a))
      obtain ⟨o1, o2⟩ := off_go n (w := W) (spread := 0) (by omega) (by omega) hF1 hMl
      rw [o1]
      simp [offF]
    have e1 := h0 seed
    have e2 := h0 seed'
    rw [show ((0 : Nat) : Int) = 0 from rfl] at e1 e2
    clear h0 hF hG hB
    simp only [decide_eq_false (show ¬ a < 1 by omega), decide_eq_false h2, wI (n := a - 1) (by omega) (by omega), w1, hs, Option.bind_some, cond_false, bne_self_eq_false, e1, e2]
/-- The list of all waits. -/
noncomputable def wl (n : Nat) (r : Plan) (seed : Int) (a k : Nat) : List Int := (List.range k).map fun i => wv n r seed ((a + i : Nat) : Int)
theorem wl_succ (n : Nat) (r : Plan) (seed : Int) (a k : Nat) : wl n r seed a (k + 1) = wv n r seed a :: wl n r seed (a + 1) k := by
  simp only [wl, List.range_succ_eq_map, List.map_cons, List.map_map, Nat.add_zero]
  refine congrArg (List.cons _) (List.map_congr_left fun i _ => ?_)
  simp only [Function.comp, Nat.succ_eq_add_one]
  rw [show a + (i + 1) = a + 1 + i by omega]
theorem wl_length (n : Nat) (r : Plan) (seed : Int) (a k : Nat) : (wl n r seed a k).length = k := by simp [wl]
theorem waits_loop {n : Nat} (hn : 200 ≤ n) {r : Plan} (hb : i64 r.1) (hm : i64 r.2.1) (hok : planOK r = true) (seed : Int) :
    ∀ (k m a : Nat) (l : List Int), 1 ≤ a → ((a + k : Nat) : Int) = r.2.2.1 → l.length + k ≤ 64 → k < m → f64_12 n m seed a r l = some (l ++ wl n r seed a k, 0) := by
  obtain ⟨p1, p2, p3, p4, p5, p6⟩ := of_decide_eq_true hok
  intro k
  induction k with
  | zero =>
    intro m a l ha he _ hm'
    obtain ⟨m, rfl⟩ : ∃ q, m = q + 1 := ⟨m - 1, by omega⟩
    rw [f64_12_eq, decide_eq_false (show ¬ (a : Int) < r.2.2.1 by omega)]
    simp [wl]
  | succ k ih =>
    intro m a l ha he hl hm'
    obtain ⟨m, rfl⟩ : ∃ q, m = q + 1 := ⟨m - 1, by omega⟩
    obtain ⟨more, h1, _⟩ := wv_go hn hb hm hok (a := (a : Int)) (by omega) seed
    rw [f64_12_eq, decide_eq_true (show (a : Int) < r.2.2.1 by omega), h1]
    simp only [cond_true, Option.bind_some, bne_self_eq_false, cond_false]
    rw [decide_eq_true (show (l.length + [wv n r seed a].length) * 8 ≤ Go.Rf.maxBytes by rw [maxBytes_eq]; simp; omega)]
    rw [wI (n := (a : Int) + 1) (by omega) (by omega)]
    have := ih m (a + 1) (l ++ [wv n r seed a]) (by omega) (by omega) (by simp; omega) (by omega)
    rw [show ((a + 1 : Nat) : Int) = (a : Int) + 1 by omega] at this
    simp only [cond_true]
    rw [this, wl_succ]
    simp
theorem waits_go {n : Nat} (hn : 200 ≤ n) {r : Plan} (hb : i64 r.1) (hm : i64 r.2.1) (hok : planOK r = true) (seed : Int) :
    f64 n r seed = some (wl n r seed 1 (r.2.2.1 - 1).toNat, 0) := by
  obtain ⟨p1, p2, p3, p4, p5, p6⟩ := of_decide_eq_true hok
  rw [f64_eq, check_go, hok]
  simp only [cond_true, Option.bind_some, bne_self_eq_false, cond_false]
  have := waits_loop hn hb hm hok seed (r.2.2.1 - 1).toNat n 1 [] (by omega) (by omega) (by simp; omega) (by omega)
  simpa using this
theorem wl_i64 {n : Nat} (hn : 200 ≤ n) {r : Plan} (hb : i64 r.1) (hm : i64 r.2.1) (hok : planOK r = true) (seed : Int) {a k : Nat} (ha : 1 ≤ a) : ∀ x ∈ wl n r seed a k, i64 x := by
  intro x hx
  simp only [wl, List.mem_map] at hx
  obtain ⟨i, _, rfl⟩ := hx
  obtain ⟨_, _, _, h⟩ := wv_go hn hb hm hok (a := ((a + i : Nat) : Int)) (by omega) seed
  exact h
theorem wl_bare {n : Nat} (hn : 200 ≤ n) {r : Plan} (hb : i64 r.1) (hm : i64 r.2.1) (hok : planOK r = true) (hs : r.2.2.2 = 0) (seed seed' : Int) {a k : Nat} (ha : 1 ≤ a) :
    wl n r seed a k = wl n r seed' a k := by
  simp only [wl]
  apply List.map_congr_left
  intro i _
  unfold wv
  rw [bare_seed hn hb hm hok hs (a := ((a + i : Nat) : Int)) (by omega) seed seed']
theorem bare_ok {r : Plan} (hok : planOK r = true) : planOK (r.1, r.2.1, r.2.2.1, 0) = true := by
  obtain ⟨p1, p2, p3, p4, p5, p6⟩ := of_decide_eq_true hok
  exact decide_eq_true (show 0 ≤ r.1 ∧ 0 ≤ r.2.1 ∧ 1 ≤ r.2.2.1 ∧ r.2.2.1 ≤ 64 ∧ (0 : Int) ≤ 0 ∧ (0 : Int) ≤ 256 by omega)
theorem plans_loop {n : Nat} (hn : 200 ≤ n) {r : Plan} (hb : i64 r.1) (hm : i64 r.2.1) (hok : planOK r = true) (seed hi lo : Int) (L : List Int) :
    ∀ (k m a : Nat) (l : List Int), 1 ≤ a → ((a + k : Nat) : Int) = r.2.2.1 → l.length + k ≤ 64 → k < m → L.length + 1 = a + k → L.drop (a - 1) = wl n r seed a k →
      f13_22 n m seed L hi lo a r (r.1, r.2.1, r.2.2.1, 0) l =
        (f36 n (l ++ wl n (r.1, r.2.1, r.2.2.1, 0) seed a k)).bind fun r4 => bif hi == r4.fst then some (lo == r4.snd.fst) else some false := by
  obtain ⟨p1, p2, p3, p4, p5, p6⟩ := of_decide_eq_true hok
  intro k
  induction k with
  | zero =>
    intro m a l ha he _ hm' _ _
    obtain ⟨m, rfl⟩ : ∃ q, m = q + 1 := ⟨m - 1, by omega⟩
    rw [f13_22_eq, decide_eq_false (show ¬ (a : Int) < r.2.2.1 by omega)]
    simp [wl]
  | succ k ih =>
    intro m a l ha he hl hm' hL hd
    obtain ⟨m, rfl⟩ : ∃ q, m = q + 1 := ⟨m - 1, by omega⟩
    obtain ⟨more, _, h1, _⟩ := wv_go hn hb hm hok (a := (a : Int)) (by omega) seed
    obtain ⟨more', _, h2, _⟩ := wv_go hn (r := (r.1, r.2.1, r.2.2.1, 0)) hb hm (bare_ok hok) (a := (a : Int)) (by omega) seed
    rw [wl_succ, getD_drop (d := 0) (show a - 1 < L.length by omega)] at hd
    have hd1 := (List.cons.inj hd).1
    have hd2 := (List.cons.inj hd).2
    rw [f13_22_eq, decide_eq_true (show (a : Int) < r.2.2.1 by omega), plan_go]
    simp only [cond_true, Option.bind_some]
    rw [h1, wI (n := (a : Int) - 1) (by omega) (by omega)]
    simp only [Option.bind_some]
    rw [decide_eq_true (show (0 : Int) ≤ (a : Int) - 1 ∧ (a : Int) - 1 < (L.length : Int) by omega)]
    simp only [cond_true]
    rw [show ((a : Int) - 1).toNat = a - 1 by omega, hd1]
    simp only [bne_self_eq_false, cond_false]
    rw [h2]
    simp only [Option.bind_some]
    rw [decide_eq_true (show (l.length + [wv n (r.1, r.2.1, r.2.2.1, 0) seed a].length) * 8 ≤ Go.Rf.maxBytes by rw [maxBytes_eq]; simp; omega)]
    rw [wI (n := (a : Int) + 1) (by omega) (by omega)]
    have := ih m (a + 1) (l ++ [wv n (r.1, r.2.1, r.2.2.1, 0) seed a]) (by omega) (by omega) (by simp; omega) (by omega) (by omega) (by rw [show a + 1 - 1 = a - 1 + 1 by omega]; exact hd2)
    rw [show ((a + 1 : Nat) : Int) = (a : Int) + 1 by omega] at this
    simp only [cond_true]
    rw [this, wl_succ]
    simp
theorem whole_go {n : Nat} (hn : 200 ≤ n) {r : Plan} (hb : i64 r.1) (hm : i64 r.2.1) (hok : planOK r = true) (seed : Int) :
    f65 n r = some (sumS (wl n (r.1, r.2.1, r.2.2.1, 0) seed 1 (r.2.2.1 - 1).toNat)) := by
  obtain ⟨p1, p2, p3, p4, p5, p6⟩ := of_decide_eq_true hok
  rw [f65_eq, check_go, hok]
  simp only [cond_true, Option.bind_some, bne_self_eq_false, cond_false]
  have h := waits_go hn (r := (r.1, r.2.1, r.2.2.1, 0)) hb hm (bare_ok hok) 0
  rw [show (r.1, r.2.1, r.2.2.1, (0 : Int)).2.2.1 = r.2.2.1 from rfl, wl_bare hn (r := (r.1, r.2.1, r.2.2.1, 0)) hb hm (bare_ok hok) rfl 0 seed (by omega)] at h
  rw [h]
  simp only [Option.bind_some, bne_self_eq_false, cond_false]
  rw [sum_go (by rw [wl_length, maxLen_eq]; omega) (wl_i64 hn (r := (r.1, r.2.1, r.2.2.1, 0)) hb hm (bare_ok hok) seed (by omega)) (by rw [wl_length]; omega)]
  rfl
theorem retry_plans {n : Nat} (hn : 200 ≤ n) {r : Plan} (hb : i64 r.1) (hm : i64 r.2.1) {seed : Int} : f13 n r seed = some true := by
  rw [f13_eq]
  cases hok : planOK r with
  | false =>
    rw [f64_eq, f65_eq, check_go, hok, awake_retry, plan_go]
    simp only [Option.bind_some, cond_false, cond_true, Bool.not_true]
    rw [may_go, hok]
    rfl
  | true =>
    obtain ⟨p1, p2, p3, p4, p5, p6⟩ := of_decide_eq_true hok
    have hp : ∀ x ∈ wl n (r.1, r.2.1, r.2.2.1, 0) seed 1 (r.2.2.1 - 1).toNat, 0 ≤ x := by
      intro x hx
      simp only [wl, List.mem_map] at hx
      obtain ⟨i, _, rfl⟩ := hx
      obtain ⟨v, more, e, h1, h2, h3, h4⟩ := waits_alike hn (r := (r.1, r.2.1, r.2.2.1, 0)) hb hm (a := ((1 + i : Nat) : Int)) (seed := seed)
      have he := h4 (bare_ok hok) (by omega)
      have hv : wv n (r.1, r.2.1, r.2.2.1, 0) seed ((1 + i : Nat) : Int) = v := by unfold wv; rw [h1]; rfl
      rw [hv]
      exact (h3 he).2.1
    have hany : ((wl n (r.1, r.2.1, r.2.2.1, 0) seed 1 (r.2.2.1 - 1).toNat).any fun x => decide (x < 0)) = false := by
      rw [List.any_eq_false]
      intro x hx
      have := hp x hx
      simp; omega
    have hS : ∃ x y, sumS (wl n (r.1, r.2.1, r.2.2.1, 0) seed 1 (r.2.2.1 - 1).toNat) = (x, y, 0) := by
      unfold sumS
      rw [hany]
      exact ⟨_, _, rfl⟩
    obtain ⟨x, y, hxy⟩ := hS
    rw [waits_go hn hb hm hok seed, whole_go hn hb hm hok seed, hxy, awake_retry, plan_go]
    simp only [Option.bind_some, cond_false, cond_true, Bool.not_true]
    rw [may_go, hok]
    simp only [Option.bind_some, cond_false, cond_true, Bool.not_true, bne_self_eq_false]
    rw [wI (n := r.2.2.1 - 1) (by omega) (by omega), wl_length]
    rw [show (((r.2.2.1 - 1).toNat : Nat) : Int) = r.2.2.1 - 1 by omega]
    simp only [bne_self_eq_false, cond_false]
    have := plans_loop hn hb hm hok seed x y (wl n r seed 1 (r.2.2.1 - 1).toNat) (r.2.2.1 - 1).toNat n 1 [] (by omega) (by omega) (by simp; omega) (by omega) (by rw [wl_length]; omega) (by simp)
    rw [show ((1 : Nat) : Int) = 1 from rfl] at this
    rw [this, List.nil_append, sum_ref (by rw [wl_length, maxLen_eq]; omega) (wl_i64 hn (r := (r.1, r.2.1, r.2.2.1, 0)) hb hm (bare_ok hok) seed (by omega)) (by rw [wl_length]; omega), hxy]
    simp
end Go.Proofs.Ytnlnfmakcnadlaa
