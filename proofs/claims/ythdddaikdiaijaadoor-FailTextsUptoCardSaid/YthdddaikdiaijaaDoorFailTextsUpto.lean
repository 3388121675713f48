/- The law FailTexts, where what it reads is of bulk at most 1048576: its row and its card: out of its walk and its plain law. -/
import Derived.Test.YthdddaikdiaijaaDoorRfU
import Derived.Test.YthdddaikdiaijaaDoorLTexts
import Derived.Test.YthdddaikdiaijaaDoorLWit
import Derived.Test.YthdddaikdiaijaaDoorCards
import Derived.Test.YthdddaikdiaijaaDoorTie
import Derived.JoinedOf
import Derived.JoinedCond
import Derived.Lay
import Derived.WalkKit
import Derived.ProofKit
import Derived.Deep.DeepHandedRow
import Derived.Deep.DeepWitnessRowRef
import Derived.Lib.LaidTab
import Derived.Stop.LaidErr
namespace Go.Proofs.YthdddaikdiaijaaDoor
open Go.Rf Go.ChangeShapes Go.WideShapes Go.ChangeAt Go.RowKit
theorem star : "*" ++ "errors.errorString" = "*errors.errorString" := by decide
theorem row_es (u : TypeId) (h : Tryd.prog.typeName? 3 u = some "*errors.errorString") : u = 140 :=
  typeName_ptr_named (nm := "errors.errorString") (by rw [star]; kernel_rfl) (by kernel_rfl) (by decide) u (by rw [star]; exact h)
abbrev laid7 : List (String × DataW Unit) := [("math/bits.deBruijn32tab", Rows.laid_math_bits_deBruijn32tab), ("math/bits.deBruijn64tab", Rows.laid_math_bits_deBruijn64tab), ("internal/strconv.uint64pow10", Rows.laid_internal_strconv_uint64pow10), ("unicode/utf8.acceptRanges", Rows.laid_unicode_utf8_acceptRanges), ("strconv.ErrRange", Rows.laid_strconv_ErrRange), ("strconv.ErrSyntax", Rows.laid_strconv_ErrSyntax), ("unicode/utf8.first", Rows.laid_unicode_utf8_first)]
/-- The listed variables lie as they are laid. -/
theorem laid_of2 {W0 : World} (h : laidMetH Tryd.prog Rows.failTextsUptoRow.laid W0) (hS : W0.ShapedOpen Tryd.prog) : Laid2 W0 := by
  have h' : laidMet Tryd.prog laid7 W0 ∧ handlesMet Tryd.prog [("errors.errorType", Rows.laid_errors_errorType)] W0 := h
  have h3 := laidMet.tail (laidMet.tail h'.1)
  have h4 := laidMet.tail (laidMet.tail h3)
  have h5 := laidMet.tail h4
  obtain ⟨a0, _, hr, _, _, _⟩ := laid_sentinel h4 (g := 2) (ti := 31) (tp := 140) (te := 142) (ts := 9) (by kernel_rfl) (by kernel_rfl) Tryd.underlying31 row_es Tryd.underlying140 Tryd.underlying142 rfl rfl Tryd.underlying9 (by kernel_rfl) (by kernel_rfl)
  obtain ⟨b0, _, hs, _, _, _⟩ := laid_sentinel h5 (g := 1) (ti := 31) (tp := 140) (te := 142) (ts := 9) (by kernel_rfl) (by kernel_rfl) Tryd.underlying31 row_es Tryd.underlying140 Tryd.underlying142 rfl rfl Tryd.underlying9 (by kernel_rfl) (by kernel_rfl)
  obtain ⟨m, hm⟩ := cell_of_shapedOpen_int (zero := #[.int .i64 0]) (t := 3) hS (g := 3) (of_decide_eq_true (by kernel_rfl)) (by kernel_rfl) rfl (by kernel_rfl) (by kernel_rfl) Tryd.underlying3
  exact ⟨⟨tab_of h3, ety_of h'.2⟩, ⟨_, _, hr⟩, ⟨_, _, hs⟩, ⟨m, hm⟩⟩
noncomputable def witW2 (os : Os) : World := (baseW os).layVars Tryd.prog laid7
theorem witW2_os (os : Os) : (witW2 os).os = os := (World.layVars_os _ _ _).trans (baseW_os os)
theorem witW2_met (os : Os) (args : Array Value) : laidMetH Tryd.prog Rows.failTextsUptoRow.laid ((witW2 os).forCall (fun _ _ => 0) ⟨#[], args, []⟩).memory :=
  laidMetH_of_parts (laidMet_layW args (by kernel_rfl) (by kernel_rfl)) (by kernel_rfl)
theorem failTexts_plain (y : dens [(.agg (.pair (.int .i64) (.pair (.int .i64) (.int .i64)))), .str]) (h : WfL Tryd.prog [(.agg (.pair (.int .i64) (.pair (.int .i64) (.int .i64)))), .str] y) (hb : (fun y => y.2.size ≤ 1048576) y) : ∃ n, f6 n y.1 y.2 = some true := by
  obtain ⟨⟨h1, h2, h3⟩, _⟩ := h
  obtain ⟨s, hs⟩ := bs_of y.2
  refine ⟨1048700, ?_⟩
  have hb : y.2.size ≤ 1048576 := hb
  rw [hs]
  rw [hs, bs_size] at hb
  exact fail_texts (Nat.le_refl _) ⟨wf_i64 h1, wf_i64 h2, wf_i64 h3⟩ hb
noncomputable abbrev failTextsArgs : Array Value := #[((Tryd.prog.info? 25).bind (·.zero)).getD (.bool false), ((Tryd.prog.info? 9).bind (·.zero)).getD (.bool false)]
set_option maxRecDepth 100000 in
theorem failTexts_lifted (os : Os) (started : os.Started) (H : Type) (enc : TypeId × Value → H) (I : Stop.Interp) :
    ReturnsInHanded {} Tryd.checked os 6 .any ((Rows.OpenSpec.upto Rows.failTextsSpec).preRow enc Tryd.prog Tryd.f6 Rows.failTextsUptoRow.domain false Rows.failTextsUptoRow.laid) (((Rows.OpenSpec.upto Rows.failTextsSpec).at I).post enc Tryd.prog Tryd.f6 false true false false) :=
  law_lifted_row_upto (k := Rows.uptoSmall) (C := Tryd.checked) (s := Rows.failTextsSpec) (ts := [(.agg (.pair (.int .i64) (.pair (.int .i64) (.int .i64)))), .str]) (F := fun n (y : dens [(.agg (.pair (.int .i64) (.pair (.int .i64) (.int .i64)))), .str]) => f6 n y.1 y.2) (by kernel_rfl) started (by kernel_rfl) Tryd.func6 (by kernel_rfl) (by kernel_rfl) (by kernel_rfl) rfl (by kernel_rfl) Tryd.underlying4
    (fun H ds h => match ds, h with
      | [d0, d1], _ => ⟨rfl, rfl, rfl⟩)
    (by kernel_rfl) (by kernel_rfl)
    (witness_row_atRef (enc := enc) (C := Tryd.checked) false (witW2 os) failTextsArgs (witW2_os os) (by kernel_rfl) (by kernel_rfl) (by kernel_rfl)
      (OpenSpec.preRow_of_cond 8 (x := ([.agg [.lit (.int .i64 0), .lit (.int .i64 0), .lit (.int .i64 0)], .lit (.string [])], [], [])) (by kernel_rfl) (by kernel_rfl) (fun k hk => by cases hk; kernel_rfl) (by kernel_rfl) (witW2_met os _)))
    (fun W0 h1 h2 n => ok6 (laid_of2 h1 h2) n) (fun y => y.2.size ≤ 1048576) (fun W args ds y p hR hT hk => by
      obtain ⟨x, _, rfl, hx, z, rfl, hz⟩ := hR
      have hz : [z] = [Value.string y.2] := hz
      injection hz with hz
      subst hz
      have hp : Tryd.f6.params.toList = [25, 9] := by kernel_rfl
      rw [hp] at hT
      match ds, hT, hk with
      | [d0, d1], ⟨_, _, _, ⟨_, _, ⟨fuel, h1⟩, _, _⟩, _⟩, hk =>
        obtain ⟨s, e, h2, _⟩ := DataW.trod_string Tryd.underlying9 h1
        have e : [Value.string y.2] = [Value.string s] := e
        injection e with e
        injection e with e
        have hk := of_decide_eq_true hk
        have h2 : d1 = .lit (.string s.data.toList) := by simpa using congrArg Prod.fst h2
        subst h2
        rw [← e] at hk
        simp only [Rows.uptoBulkAll, Rows.uptoBulk] at hk
        show y.2.size ≤ 1048576
        rw [Lib.size_eq]
        omega) failTexts_plain
/-- The row of the law. -/
theorem failTexts_said : Rows.FailTextsUptoSaid :=
  OpenClaim.holds_of_cond 6 Tryd.f6 rfl rfl rfl rfl rfl rfl rfl ⟨rfl, rfl, rfl, rfl, rfl⟩ rfl rfl rfl rfl rfl (by kernel_rfl) Tryd.func6 (by kernel_rfl)
    (of_decide_eq_true (by kernel_rfl)) (by unfold Func.isWrapper; first | (rw [if_pos (by decide +kernel)]; kernel_rfl) | (rw [if_neg (by decide +kernel)]; exact ⟨rfl, rfl⟩))
    (fun os started H enc _ F => by rw [OpenClaim.pre_eq_preRow]; exact failTexts_lifted os started H enc F)
theorem failTexts_noStand (f : FuncId) (fn : Func) (hf : Tryd.pinned.checked.prog.funcNamed "convoy/convoylaw03.FailTexts" = some f) (hfn : Tryd.pinned.checked.prog.funcs[f]? = some fn) :
    true = Tryd.pinned.checked.prog.looks [] ∧ ∀ (j : Nat) t, fn.params[j]? = some t → Tryd.pinned.checked.prog.wantsStandIn t = false := by
  obtain rfl : f = 6 := Option.some.inj ((show Tryd.prog.funcNamed "convoy/convoylaw03.FailTexts" = some 6 by kernel_rfl).symm.trans hf) |>.symm
  obtain rfl : fn = Tryd.f6 := (Option.some.inj (Tryd.func6.symm.trans hfn)).symm
  refine ⟨by kernel_rfl, fun j t ht => ?_⟩
  have hall : (Tryd.f6.params.toList.all fun t => !Tryd.prog.wantsStandIn t) = true := by kernel_rfl
  have := List.all_eq_true.1 hall t (by simpa using Array.mem_of_getElem? ht)
  exact (by simpa using this : Tryd.prog.wantsStandIn t = false)
/-- The law FailTexts holds of the program where what it reads is small: its card. -/
theorem failTextsUpto_holds : Rows.FailTextsUptoCardSaid :=
  Claim7.holds_tied_plain_at .later [] _ _ _ _ failTexts_said (fun _ h => by cases h) (by kernel_rfl) (fun _ h => by cases h) failTextsUpto_row_tie rfl ⟨rfl, rfl⟩ (by kernel_rfl) rfl failTexts_noStand (by kernel_rfl)
#print axioms failTextsUpto_holds
end Go.Proofs.YthdddaikdiaijaaDoor

