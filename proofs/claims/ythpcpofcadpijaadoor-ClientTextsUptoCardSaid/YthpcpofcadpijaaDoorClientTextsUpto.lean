/- The law ClientTexts, where what it reads is of bulk at most 1048576: its row and its card: out of its walk and its plain law. -/
import Derived.Test.YthpcpofcadpijaaDoorRfU
import Derived.Test.YthpcpofcadpijaaDoorLTexts
import Derived.Test.YthpcpofcadpijaaDoorCards
import Derived.Test.YthpcpofcadpijaaDoorTie
import Derived.JoinedOf
import Derived.JoinedCond
import Derived.Lay
import Derived.WalkKit
import Derived.ProofKit
import Derived.Deep.DeepHandedRow
import Derived.Deep.DeepWitnessRowRef
import Derived.Lib.LaidTab
import Derived.Stop.LaidErr
namespace Go.Proofs.YthpcpofcadpijaaDoor
open Go.Rf Go.ChangeShapes Go.WideShapes Go.ChangeAt Go.RowKit
theorem star : "*" ++ "errors.errorString" = "*errors.errorString" := by decide
theorem row_es (u : TypeId) (h : Tryd.prog.typeName? 3 u = some "*errors.errorString") : u = 187 :=
  typeName_ptr_named (nm := "errors.errorString") (by rw [star]; kernel_rfl) (by kernel_rfl) (by decide) u (by rw [star]; exact h)
/-- The listed variables lie as they are laid. -/
theorem laid_of {W0 : World} (h : laidMetH Tryd.prog Rows.clientTextsUptoRow.laid W0) : Laid W0 := by
  rw [MakeChecks.laidMetH_plain _ _ _ (by kernel_rfl)] at h
  have h3 : laidMet Tryd.prog [("internal/strconv.uint64pow10", Rows.laid_internal_strconv_uint64pow10), ("strconv.ErrRange", Rows.laid_strconv_ErrRange), ("strconv.ErrSyntax", Rows.laid_strconv_ErrSyntax)] W0 := laidMet.tail (laidMet.tail h)
  have h4 := laidMet.tail h3
  have h5 := laidMet.tail h4
  rw [show (Rows.laid_internal_strconv_uint64pow10 : DataW Unit) = Lib.tabData .u64 Lib.pow10Tab by rfl] at h3
  obtain ⟨a0, _, hr, _, _, _⟩ := laid_sentinel h4 (g := 3) (ti := 106) (tp := 187) (te := 189) (ts := 9) (by kernel_rfl) (by kernel_rfl) Tryd.underlying106 row_es Tryd.underlying187 Tryd.underlying189 rfl rfl Tryd.underlying9 (by kernel_rfl) (by kernel_rfl)
  obtain ⟨b0, _, hs, _, _, _⟩ := laid_sentinel h5 (g := 2) (ti := 106) (tp := 187) (te := 189) (ts := 9) (by kernel_rfl) (by kernel_rfl) Tryd.underlying106 row_es Tryd.underlying187 Tryd.underlying189 rfl rfl Tryd.underlying9 (by kernel_rfl) (by kernel_rfl)
  exact ⟨Lib.tabIs_of_head (g := 1) (t := 167) (e := 157) (n := 20) (by kernel_rfl) (by kernel_rfl) (by kernel_rfl) (by kernel_rfl) (by kernel_rfl) (by kernel_rfl) h3, ⟨_, _, hr⟩, ⟨_, _, hs⟩⟩
theorem u16_of {d : Do} (h : Wf Tryd.prog (.agg (.pair (.int .i64) (.pair (.agg (.pair (.int .u16) .str)) (.pair (.int .i64) (.int .i64))))) d) : U16 d := by
  have h2 : (Lit.int .u16 d.2.1.1).wf = true := h.2.1.1
  simp only [Lit.wf, Bool.and_eq_true, decide_eq_true_eq] at h2
  exact h2
theorem clientTexts_plain (y : dens [(.sl 29 (.agg (.pair (.int .i64) (.pair (.agg (.pair (.int .u16) .str)) (.pair (.int .i64) (.int .i64)))))), .str]) (h : WfL Tryd.prog [(.sl 29 (.agg (.pair (.int .i64) (.pair (.agg (.pair (.int .u16) .str)) (.pair (.int .i64) (.int .i64)))))), .str] y) (hb : (fun y => y.2.size ≤ 1048576) y) : ∃ n, f6 n y.1 y.2 = some true := by
  obtain ⟨hw1, _⟩ := h
  obtain ⟨_, hall, hby⟩ := hw1
  have e : Tryd.prog.bytesOf 29 = 48 := by kernel_rfl
  have hr : reachBytes = 140737488351232 := by decide
  rw [e, hr] at hby
  obtain ⟨s, hs⟩ := bs_of y.2
  refine ⟨y.1.length + 8388608, ?_⟩
  have hb : y.2.size ≤ 1048576 := hb
  rw [hs]
  rw [hs, bs_size] at hb
  exact texts_true y.1 s (by omega) hb (Nat.le_refl _) (fun d hd => u16_of (hall d hd))
noncomputable abbrev clientTextsArgs : Array Value := #[((Tryd.prog.info? 22).bind (·.zero)).getD (.bool false), ((Tryd.prog.info? 9).bind (·.zero)).getD (.bool false)]
theorem clientTexts_laid (os : Os) : laidMet Tryd.prog Rows.clientTextsUptoRow.laid ((World.laidAll Tryd.prog os Rows.clientTextsUptoRow.laid).forCall (fun _ _ => 0) ⟨#[], clientTextsArgs, []⟩).memory :=
  laidMet_laidAll _ (by kernel_rfl) (by kernel_rfl)
set_option maxRecDepth 100000 in
theorem clientTexts_lifted (os : Os) (started : os.Started) (H : Type) (enc : TypeId × Value → H) (I : Stop.Interp) :
    ReturnsInHanded {} Tryd.checked os 6 .any ((Rows.OpenSpec.upto Rows.clientTextsSpec).preRow enc Tryd.prog Tryd.f6 Rows.clientTextsUptoRow.domain false Rows.clientTextsUptoRow.laid) (((Rows.OpenSpec.upto Rows.clientTextsSpec).at I).post enc Tryd.prog Tryd.f6 false true false false) :=
  law_lifted_row_upto (k := Rows.uptoSmall) (C := Tryd.checked) (s := Rows.clientTextsSpec) (ts := [(.sl 29 (.agg (.pair (.int .i64) (.pair (.agg (.pair (.int .u16) .str)) (.pair (.int .i64) (.int .i64)))))), .str]) (F := fun n (y : dens [(.sl 29 (.agg (.pair (.int .i64) (.pair (.agg (.pair (.int .u16) .str)) (.pair (.int .i64) (.int .i64)))))), .str]) => f6 n y.1 y.2) (by kernel_rfl) started (by kernel_rfl) Tryd.func6 (by kernel_rfl) (by kernel_rfl) (by kernel_rfl) rfl (by kernel_rfl) Tryd.underlying4
    (fun H ds h => match ds, h with
      | [d0, d1], _ => ⟨rfl, rfl, rfl⟩)
    (by kernel_rfl) (by kernel_rfl)
    (witness_row_atRef (enc := enc) (C := Tryd.checked) false (World.laidAll Tryd.prog os Rows.clientTextsUptoRow.laid) clientTextsArgs (World.laidAll_os _ _ _) (by kernel_rfl) (by kernel_rfl) (by kernel_rfl)
      (OpenSpec.preRow_of_cond 8 (x := ([.nil, .lit (.string [])], [], [])) (by kernel_rfl) (by kernel_rfl) (fun k hk => by cases hk; kernel_rfl) (by kernel_rfl) (by rw [MakeChecks.laidMetH_plain _ _ _ (by kernel_rfl)]; exact clientTexts_laid os)))
    (fun W0 h1 _ n => ok6 (laid_of h1) n) (fun y => y.2.size ≤ 1048576) (fun W args ds y p hR hT hk => by
      obtain ⟨x, _, rfl, hx, z, rfl, hz⟩ := hR
      have hz : [z] = [Value.string y.2] := hz
      injection hz with hz
      subst hz
      have hp : Tryd.f6.params.toList = [22, 9] := by kernel_rfl
      rw [hp] at hT
      match ds, hT, hk with
      | [d0, d1], ⟨_, _, _, ⟨_, _, ⟨fuel, h1⟩, _, _⟩, _⟩, hk =>
        obtain ⟨s, e, h2, _⟩ := DataW.trod_string Tryd.underlying9 h1
        have e : [Value.string y.2] = [Value.string s] := e
        injection e with e
        injection e with e
        have hk := of_decide_eq_true hk
        have h2 : d1 = .lit (.string s.data.toList) := by simpa using congrArg Prod.fst h2
        subst h2
        rw [← e] at hk
        simp only [Rows.uptoBulkAll, Rows.uptoBulk] at hk
        show y.2.size ≤ 1048576
        rw [Lib.size_eq]
        omega) clientTexts_plain
/-- The row of the law. -/
theorem clientTexts_said : Rows.ClientTextsUptoSaid :=
  OpenClaim.holds_of_cond 6 Tryd.f6 rfl rfl rfl rfl rfl rfl rfl ⟨rfl, rfl, rfl, rfl, rfl⟩ rfl rfl rfl rfl rfl (by kernel_rfl) Tryd.func6 (by kernel_rfl)
    (of_decide_eq_true (by kernel_rfl)) (by unfold Func.isWrapper; first | (rw [if_pos (by decide +kernel)]; kernel_rfl) | (rw [if_neg (by decide +kernel)]; exact ⟨rfl, rfl⟩))
    (fun os started H enc _ F => by rw [OpenClaim.pre_eq_preRow]; exact clientTexts_lifted os started H enc F)
theorem clientTexts_noStand (f : FuncId) (fn : Func) (hf : Tryd.pinned.checked.prog.funcNamed "convoy/convoylaw21.ClientTexts" = some f) (hfn : Tryd.pinned.checked.prog.funcs[f]? = some fn) :
    true = Tryd.pinned.checked.prog.looks [] ∧ ∀ (j : Nat) t, fn.params[j]? = some t → Tryd.pinned.checked.prog.wantsStandIn t = false := by
  obtain rfl : f = 6 := Option.some.inj ((show Tryd.prog.funcNamed "convoy/convoylaw21.ClientTexts" = some 6 by kernel_rfl).symm.trans hf) |>.symm
  obtain rfl : fn = Tryd.f6 := (Option.some.inj (Tryd.func6.symm.trans hfn)).symm
  refine ⟨by kernel_rfl, fun j t ht => ?_⟩
  have hall : (Tryd.f6.params.toList.all fun t => !Tryd.prog.wantsStandIn t) = true := by kernel_rfl
  have := List.all_eq_true.1 hall t (by simpa using Array.mem_of_getElem? ht)
  exact (by simpa using this : Tryd.prog.wantsStandIn t = false)
/-- The law ClientTexts holds of the program where what it reads is small: its card. -/
theorem clientTextsUpto_holds : Rows.ClientTextsUptoCardSaid :=
  Claim7.holds_tied_plain_at .later [] _ _ _ _ clientTexts_said (fun _ h => by cases h) (by kernel_rfl) (fun _ h => by cases h) clientTextsUpto_row_tie rfl ⟨rfl, rfl⟩ (by kernel_rfl) rfl clientTexts_noStand (by kernel_rfl)
#print axioms clientTextsUpto_holds
end Go.Proofs.YthpcpofcadpijaaDoor

