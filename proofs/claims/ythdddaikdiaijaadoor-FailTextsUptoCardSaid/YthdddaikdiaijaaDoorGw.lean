/- fail.Of, Wrap and Find by hand: a carrier, wrappers around it, and what is found in them; the law's awake. -/
import Derived.Test.YthdddaikdiaijaaDoorGa
import Derived.Handy
namespace Go.Proofs.YthdddaikdiaijaaDoor
open Go.Rf Go.RowKit
set_option maxRecDepth 100000 in
set_option maxHeartbeats 4000000 in
theorem of_some (k c r : Int) (w : World) (h : (k == 0 && (c == 0 && r == 0)) = false) :
    Calls Tryd.prog 9 #[.agg #[.int .i64 k, .int .i64 c, .int .i64 r]] w fun e w' => e = .returned (.iface 60 (.pointer (some ⟨w.heap.size + 1, 0, none⟩))) ∧ w' = (w.alloc (.cells #[.int .i64 k, .int .i64 c, .int .i64 r] 25)).alloc (.cells #[.int .i64 k, .int .i64 c, .int .i64 r] 62) := by
  go_enter Tryd.func9, Tryd.ntmps9
  go_wp2
  all_goals (first | (exfalso; simp_all; done) | (subst_vars; go_ret; exact ⟨rfl, rfl⟩))
theorem wrap_some (t : TypeId) (b : Addr) (s : ByteArray) (w : World) :
    Calls Tryd.prog 11 #[.iface t (.pointer (some b)), .string s] w fun e w' => e = .returned (.iface 63 (.pointer (some ⟨w.heap.size, 0, none⟩))) ∧ w' = w.alloc (.cells #[.string s, .iface t (.pointer (some b))] 66) := by
  go_enter Tryd.func11, Tryd.ntmps11
  go_wp2
  go_ret
  exact ⟨rfl, rfl⟩
/-- What is known of memory behind errors.As in Find. -/
structure Found (w w1 : World) (eb : Nat) (k c r : Int) : Prop where
  g0 : w1.cell? ⟨eb, 0, none⟩ = some (.int .i64 k)
  g1 : w1.cell? ⟨eb, 1, none⟩ = some (.int .i64 c)
  g2 : w1.cell? ⟨eb, 2, none⟩ = some (.int .i64 r)
  hb : Below w.heap.size w w1
  gt : w1.cell? ⟨w.heap.size + 1, 0, none⟩ = some (.pointer (some ⟨eb, 0, none⟩))
  s0 : w1.cell? ⟨w.heap.size, 0, none⟩ = some (.int .i64 0)
  s1 : w1.cell? ⟨w.heap.size, 1, none⟩ = some (.int .i64 0)
  s2 : w1.cell? ⟨w.heap.size, 2, none⟩ = some (.int .i64 0)
  z0 : w1.frozen? ⟨w.heap.size, 0, none⟩ = false
  z1 : w1.frozen? ⟨w.heap.size, 1, none⟩ = false
  z2 : w1.frozen? ⟨w.heap.size, 2, none⟩ = false
set_option maxRecDepth 100000 in
set_option maxHeartbeats 4000000 in
theorem find_some (e : Addr) (v : Value) (l : List ByteArray) (k c r : Int) (w : World) (hv : Chain w e v l) (hg : w.cell? ⟨0, 0, none⟩ = some (.iface 97 (.agg #[.pointer (some ⟨14, 31, none⟩)])))
    (he : e = ⟨e.block, 0, none⟩) (h0 : w.cell? e = some (.int .i64 k)) (h1 : w.cell? ⟨e.block, 1, none⟩ = some (.int .i64 c)) (h2 : w.cell? ⟨e.block, 2, none⟩ = some (.int .i64 r)) :
    Calls Tryd.prog 12 #[v] w fun ev w' => ev = .returned (.tuple #[.agg #[.int .i64 k, .int .i64 c, .int .i64 r], .bool true]) ∧ Below w.heap.size w w' := by
  have hlt : 0 < w.heap.size := by
    rcases Nat.eq_zero_or_pos w.heap.size with h0 | h
    · simp [World.cell?, h0] at hg
    · exact h
  have hel : e.block < w.heap.size := by
    rcases Nat.lt_or_ge e.block w.heap.size with h | h
    · exact h
    · simp [World.cell?, Array.getElem?_eq_none h] at h0
  have hc := hv.kept (((Below.refl w.heap.size w).alloc (Nat.le_refl _) (.cells #[.int .i64 0, .int .i64 0, .int .i64 0] 25)).alloc (by simp) (.cells #[.pointer none] 60))
  have has := errorsAs_chain e ⟨w.heap.size + 1, 0, none⟩ v (.pointer none) l ((w.alloc (.cells #[.int .i64 0, .int .i64 0, .int .i64 0] 25)).alloc (.cells #[.pointer none] 60)) hc
    (by rw [World.cell?_alloc_lt _ _ ⟨0, 0, none⟩ (by simp), World.cell?_alloc_lt _ _ ⟨0, 0, none⟩ hlt]; exact hg) (by simp) (by simp)
  obtain ⟨eb, eo, ei⟩ := e
  injection he with _ he1 he2
  subst he1 he2
  replace has := Calls.mono has (R' := fun ev w1 => ev = .returned (.bool true) ∧ Found w w1 eb k c r) (by
    rintro ev w1 ⟨rfl, hw⟩
    have hb : Below w.heap.size w w1 := by
      rw [hw]
      refine Below.setCell ?_ (by simp) _
      go_grown
    refine ⟨rfl, (hb.cell (p := ⟨eb, 0, none⟩) hel).trans h0, (hb.cell (p := ⟨eb, 1, none⟩) hel).trans h1, (hb.cell (p := ⟨eb, 2, none⟩) hel).trans h2, hb, ?_, ?_, ?_, ?_, ?_, ?_, ?_⟩
    all_goals (rw [hw]; simp [go_sem]))
  obtain ⟨tv, bv, rfl⟩ := hv.notNil
  clear hc hv hg h0 h1 h2
  go_enter Tryd.func12, Tryd.ntmps12
  go_wp2_with (go_at_call 27; refine has.mono ?_; rintro ev w1 ⟨rfl, hF⟩; obtain ⟨g0, g1, g2, hb, gt, s0, s1, s2, z0, z1, z2⟩ := hF; have hlt1 := hb.size)
  refine bodyPost_ret (v := .tuple #[.agg #[.int .i64 k, .int .i64 c, .int .i64 r], .bool true]) (by simp [results, Tryd.results12, go_sem, s0, s1, s2]) rfl ⟨rfl, ?_⟩
  exact ((hb.setCell (by simp) _).setCell (by simp) _).setCell (by simp) _
theorem text_awake (n : Nat) : f26 n (1, 7, 3) = some ⟨#[108, 111, 97, 100, 32, 55, 32, 51]⟩ := by kernel_rfl
set_option maxRecDepth 100000 in
theorem text_calls {W0 : World} (hL : Laid W0) (w : World) (hb : Below W0.heap.size W0 w) :
    Calls Tryd.prog 26 #[.agg #[.int .i64 1, .int .i64 7, .int .i64 3]] w fun e w' => e = .returned (.string ⟨#[108, 111, 97, 100, 32, 55, 32, 51]⟩) ∧ Below w.heap.size w w' := by
  have hx : RR w (fun _ => False) [.agg (.pair (.int .i64) (.pair (.int .i64) (.int .i64)))] ((1 : Int), (7 : Int), (3 : Int)) [.agg #[.int .i64 1, .int .i64 7, .int .i64 3]] :=
    ⟨_, rfl, ⟨[.int .i64 1, .int .i64 7, .int .i64 3], rfl, [.int .i64 1], [.int .i64 7, .int .i64 3], rfl, rfl, [.int .i64 7], [.int .i64 3], rfl, rfl, rfl⟩⟩
  have h := FnOK.calls (fn := Tryd.f26) (ok26 hL 0) (own := fun _ => False) (w := w) (y := ((1 : Int), (7 : Int), (3 : Int))) (xs := [.agg #[.int .i64 1, .int .i64 7, .int .i64 3]]) Tryd.func26 (by kernel_rfl) (by kernel_rfl) (text_awake 0) hb (fun _ h => h.elim) hx
  refine h.mono ?_
  rintro e w' ⟨ys, rfl, h1, x, rfl, h2⟩
  have h2 : [x] = [Value.string ⟨#[108, 111, 97, 100, 32, 55, 32, 51]⟩] := h2
  injection h2 with h2
  subst h2
  exact ⟨rfl, h1⟩
/-- What is known of memory behind Find in awake. -/
structure Kept (w w1 : World) : Prop where
  hb : Below w.heap.size w w1
  sz : w.heap.size < w1.heap.size
  c0 : w1.cell? ⟨w.heap.size, 0, none⟩ = some (.int .i64 1)
  c1 : w1.cell? ⟨w.heap.size, 1, none⟩ = some (.int .i64 7)
  c2 : w1.cell? ⟨w.heap.size, 2, none⟩ = some (.int .i64 3)
abbrev c173 : Array Value := #[.int .i64 1, .int .i64 7, .int .i64 3]
theorem find_awake (w : World) (hg : w.cell? ⟨0, 0, none⟩ = some (.iface 97 (.agg #[.pointer (some ⟨14, 31, none⟩)]))) :
    Calls Tryd.prog 12 #[.iface 63 (.pointer (some ⟨w.heap.size + 1 + 1 + 1, 0, none⟩))] ((((w.alloc (.cells #[.int .i64 1, .int .i64 7, .int .i64 3] 25)).alloc (.cells #[.int .i64 1, .int .i64 7, .int .i64 3] 25)).alloc (.cells #[.int .i64 1, .int .i64 7, .int .i64 3] 62)).alloc (.cells #[.string ⟨#[97]⟩, .iface 60 (.pointer (some ⟨w.heap.size + 1 + 1, 0, none⟩))] 66))
      fun e w' => e = .returned (.tuple #[.agg #[.int .i64 1, .int .i64 7, .int .i64 3], .bool true]) ∧ Kept w w' := by
  have hlt : 0 < w.heap.size := by
    rcases Nat.eq_zero_or_pos w.heap.size with h0 | h
    · simp [World.cell?, h0] at hg
    · exact h
  have hB : Below w.heap.size w ((((w.alloc (.cells #[.int .i64 1, .int .i64 7, .int .i64 3] 25)).alloc (.cells #[.int .i64 1, .int .i64 7, .int .i64 3] 25)).alloc (.cells #[.int .i64 1, .int .i64 7, .int .i64 3] 62)).alloc (.cells #[.string ⟨#[97]⟩, .iface 60 (.pointer (some ⟨w.heap.size + 1 + 1, 0, none⟩))] 66)) := by go_grown
  refine (find_some ⟨w.heap.size + 1 + 1, 0, none⟩ _ [⟨#[97]⟩] 1 7 3 _ (.wrap (w.heap.size + 1 + 1 + 1) ⟨#[97]⟩ (.iface 60 (.pointer (some ⟨w.heap.size + 1 + 1, 0, none⟩))) [] (by simp) (by simp [go_sem]) (by simp [go_sem]) .base) ((hB.cell (p := ⟨0, 0, none⟩) hlt).trans hg) rfl (by simp [go_sem]) (by simp [go_sem]) (by simp [go_sem])).mono ?_
  rintro e w' ⟨rfl, hb⟩
  have hs := hb.size
  have h1 : w.heap.size < ((((w.alloc (.cells #[.int .i64 1, .int .i64 7, .int .i64 3] 25)).alloc (.cells #[.int .i64 1, .int .i64 7, .int .i64 3] 25)).alloc (.cells #[.int .i64 1, .int .i64 7, .int .i64 3] 62)).alloc (.cells #[.string ⟨#[97]⟩, .iface 60 (.pointer (some ⟨w.heap.size + 1 + 1, 0, none⟩))] 66)).heap.size := by simp; omega
  refine ⟨rfl, hB.trans (hb.mono (Nat.le_of_lt h1)), Nat.lt_of_lt_of_le h1 hs, ?_, ?_, ?_⟩
  · rw [hb.cell (p := ⟨w.heap.size, 0, none⟩) h1]; simp [go_sem]
  · rw [hb.cell (p := ⟨w.heap.size, 1, none⟩) h1]; simp [go_sem]
  · rw [hb.cell (p := ⟨w.heap.size, 2, none⟩) h1]; simp [go_sem]
set_option maxRecDepth 100000 in
set_option maxHeartbeats 4000000 in
theorem awake_calls {W0 : World} (hL : Laid W0) (w : World) (hb0 : Below W0.heap.size W0 w) :
    Calls Tryd.prog 7 #[] w fun e w' => e = .returned (.bool true) ∧ Below w.heap.size w w' := by
  have hF := find_awake w (hL.below hb0).ety
  have hs0 : W0.heap.size ≤ w.heap.size := hb0.size
  go_enter Tryd.func7, Tryd.ntmps7
  go_wp2_with (first
    | (go_at_call 9; refine (of_some 1 7 3 _ rfl).mono ?_; rintro e w' ⟨rfl, rfl⟩)
    | (go_at_call 11; refine (wrap_some _ _ _ _).mono ?_; rintro e w' ⟨rfl, rfl⟩)
    | (go_at_call 12; refine hF.mono ?_; rintro e w1 ⟨rfl, hK⟩; obtain ⟨hb, hsz, c0, c1, c2⟩ := hK)
    | (go_at_call 26; refine (text_calls hL _ ((hb0.trans (hb.mono hs0)).alloc (Nat.le_of_lt (Nat.lt_of_le_of_lt hs0 hsz)) _)).mono ?_; rintro e w2 ⟨rfl, hb2⟩))
  go_ret
  exact ⟨rfl, (hb.alloc (Nat.le_of_lt hsz) _).trans (hb2.mono (by simp; omega))⟩
noncomputable def e7L (_ : Nat) : Entry := ⟨7, [], [.bool], fun _ => some true⟩
noncomputable def f7L (_ : Nat) : Option Bool := some true
theorem ok7L {W0 : World} (hL : Laid W0) (n : Nat) : FnOK Tryd.prog W0 (e7L n) := by
  refine FnOK.of_calls Tryd.func7 (by kernel_rfl) (by kernel_rfl) ?_
  rintro own w y r xs hf hb _ hx
  have hx : xs = [] := hx
  have hf : some true = some r := hf
  subst hx
  cases hf
  exact (awake_calls hL w hb).mono fun e w' ⟨he, hw⟩ => ⟨[_], he, hw, _, rfl, rfl⟩
end Go.Proofs.YthdddaikdiaijaaDoor
