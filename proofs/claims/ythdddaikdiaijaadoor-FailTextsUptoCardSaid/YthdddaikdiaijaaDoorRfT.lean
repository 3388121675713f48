/- Tables of functions; what the machine's own functions tell. -/
import Derived.Test.YthdddaikdiaijaaDoorRfS
import Derived.Laws.Externs
namespace Go.Rf
open Go.RowKit (Below)
theorem TableOK.nil {P : Program} {W0 : World} : TableOK P W0 ⟨[], []⟩ := ⟨fun _ h => (by cases h), fun _ h => (by cases h)⟩
theorem TableOK.cons {P : Program} {W0 : World} {e : Entry} {C : Tab} (h : FnOK P W0 e) (r : TableOK P W0 C) : TableOK P W0 ⟨e :: C.es, C.os⟩ := ⟨fun x hx => by
  rcases List.mem_cons.1 hx with rfl | hx
  · exact h
  · exact r.1 x hx, r.2⟩
theorem TableOK.ocons {P : Program} {W0 : World} {e : OE} {C : Tab} (h : OOK P W0 e) (r : TableOK P W0 C) : TableOK P W0 ⟨C.es, e :: C.os⟩ := ⟨r.1, fun x hx => by
  rcases List.mem_cons.1 hx with rfl | hx
  · exact h
  · exact r.2 x hx⟩
/-- The sum of two numbers of 64 bits, and of a bit; its carry. -/
def add64 (x y c : Int) : Option (Int × Int) :=
  bif decide (0 ≤ x ∧ 0 ≤ y ∧ 0 ≤ c ∧ c ≤ 1) then some ((x + y + c) % 18446744073709551616, (x + y + c) / 18446744073709551616) else none
def add64E (f : FuncId) : Entry := ⟨f, [.int .u64, .int .u64, .int .u64], [.int .u64, .int .u64], fun y => add64 y.1 y.2.1 y.2.2⟩
theorem add64_ok {P : Program} {W0 : World} {f : FuncId} {fn : Func} (hf : P.funcs[f]? = some fn) (hname : (fn.name == "runtime.NumGoroutine") = false)
    (hb : fn.body.isNone = true) (hn : Extern.findNext fn = none) (he : Extern.find fn = some add64Entry) : FnOK P W0 (add64E f) := by
  intro own w y r xs hy _ _ hx
  obtain ⟨x, y, c⟩ := y
  obtain ⟨x1, _, rfl, h1, x2, _, rfl, h2, x3, rfl, h3⟩ := hx
  have e1 : x1 = .int .u64 x := by
    have : DR w own (.int .u64) x [x1] := h1
    simpa [DR] using this
  have e2 : x2 = .int .u64 y := by
    have : DR w own (.int .u64) y [x2] := h2
    simpa [DR] using this
  have e3 : x3 = .int .u64 c := by
    have : DR w own (.int .u64) c [x3] := h3
    simpa [DR] using this
  subst e1; subst e2; subst e3
  have hy2 : add64 x y c = some r := hy
  unfold add64 at hy2
  by_cases h : 0 ≤ x ∧ 0 ≤ y ∧ 0 ≤ c ∧ c ≤ 1
  · rw [decide_eq_true h] at hy2
    simp only [cond_true] at hy2
    obtain rfl := Option.some.inj hy2
    refine .inr ⟨_, w, ?_, [.int .u64 ((x + y + c) % 18446744073709551616), .int .u64 ((x + y + c) / 18446744073709551616)], rfl, Below.refl _ _, ?_⟩
    · show (callFunc f #[.int .u64 x, .int .u64 y, .int .u64 c]).run P w = _
      rw [run_callFunc_extern hf hname hb hn he, run_add64 x y c h.1 h.2.1 h.2.2.1 h.2.2.2]
      rfl
    · refine ⟨_, _, rfl, ?_, _, rfl, ?_⟩
      · show DR w own (.int .u64) _ [_]
        simp [DR]
      · show DR w own (.int .u64) _ [_]
        simp [DR]
  · rw [decide_eq_false h] at hy2
    cases hy2
end Go.Rf
