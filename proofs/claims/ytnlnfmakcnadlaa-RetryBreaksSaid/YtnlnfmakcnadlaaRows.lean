/-
  No cell of these rows narrows 'for every input' (looked for: loops, veiled, ifaces, maps, wideKeys, modest, calm, conditions, laid).
  DERIVED. THE GIVEN ROWS OF THIS SEAT. 13 by the template 'for every input the law returns true; each argument reads behind the call as it read before'; 0 by the template 'total and deterministic' (their statements: YtnlnfmakcnadlaaTotals.lean).
  GIVEN WITH THE SEED: the statements are not yours to turn. If you find one false, say at which input.
  Laid BY PROGRAM, IN A SANDBOX (cutbox-rows.mjs): the forced cells as the released guide's own fill.sh prints them over the translation 700506670fb61294… (all of the seat's roots in one cut). By AI agents, Wed Nov 11 2026. No macro, syntax, notation, axiom, sorry.
-/
import Derived.Test.YtnlnfmakcnadlaaChecked
import GoSem.Claim
import GoSem.ClaimJoined
import GoSem.ClaimMapViews
import Derived.JoinedTies
import Derived.KernelRfl
namespace Go.Proofs.Ytnlnfmakcnadlaa
/- THE CELL 'sum', in the pinned program and in every row, IS THE sha256 OF THE DUMP (.gsa) THAT YtnlnfmakcnadlaaProg.lean LOADS. Nothing in Lean hashes anything: it is a label: what it is worth is what the hold of that sum in a sandbox is worth. -/
noncomputable def Try.pinned : Pinned := { name := "ytnlnfmakcnadlaa", sum := "700506670fb612948c74fbbb92b164018725af79d20dc55880113a7cdd413153", checked := Try.checked }
namespace Rows
def none {H : Type} : Left H := { results := [], args := [] }

/-- 'convoylaw26.TallyCounts': WHATEVER THE INPUT: true; the input reads as it did. -/
def tallyCountsSpec : ChangeSpec := { name := "tallyCounts", fn := fun _ => fun
  | [d1, d2] => { results := [.lit (.bool true)], args := [d1, d2] }
  | _ => none }
def tallyCountsRow : OpenClaim := { program := "ytnlnfmakcnadlaa", sum := "700506670fb612948c74fbbb92b164018725af79d20dc55880113a7cdd413153", func := "convoy/convoylaw26.TallyCounts", spec := "tallyCounts", plainKeys := false, apart := false }
def TallyCountsSaid : Prop := tallyCountsRow.holds Try.pinned (OpenSpec.ofChange tallyCountsSpec)

/-- ITS FALSE NEIGHBOUR: 'it returns false'. Refute it at one input. -/
def tallyCountsWrong : ChangeSpec := { name := "tallyCounts", fn := fun _ => fun
  | [d1, d2] => { results := [.lit (.bool false)], args := [d1, d2] }
  | _ => none }
def TallyCountsWrongFalsely : Prop := tallyCountsRow.holds Try.pinned (OpenSpec.ofChange tallyCountsWrong)

/-- 'convoylaw01.TickAges': WHATEVER THE INPUT: true; the input reads as it did. -/
def tickAgesSpec : ChangeSpec := { name := "tickAges", fn := fun _ => fun
  | [d1, d2, d3] => { results := [.lit (.bool true)], args := [d1, d2, d3] }
  | _ => none }
def tickAgesRow : OpenClaim := { program := "ytnlnfmakcnadlaa", sum := "700506670fb612948c74fbbb92b164018725af79d20dc55880113a7cdd413153", func := "convoy/convoylaw01.TickAges", spec := "tickAges", inPlace := ["math/bits.Add64"], plainKeys := false, apart := false }
def TickAgesSaid : Prop := tickAgesRow.holds Try.pinned (OpenSpec.ofChange tickAgesSpec)

/-- ITS FALSE NEIGHBOUR: 'it returns false'. Refute it at one input. -/
def tickAgesWrong : ChangeSpec := { name := "tickAges", fn := fun _ => fun
  | [d1, d2, d3] => { results := [.lit (.bool false)], args := [d1, d2, d3] }
  | _ => none }
def TickAgesWrongFalsely : Prop := tickAgesRow.holds Try.pinned (OpenSpec.ofChange tickAgesWrong)

/-- 'convoylaw01.TickMixes': WHATEVER THE INPUT: true; the input reads as it did. -/
def tickMixesSpec : ChangeSpec := { name := "tickMixes", fn := fun _ => fun
  | [d1, d2, d3] => { results := [.lit (.bool true)], args := [d1, d2, d3] }
  | _ => none }
def tickMixesRow : OpenClaim := { program := "ytnlnfmakcnadlaa", sum := "700506670fb612948c74fbbb92b164018725af79d20dc55880113a7cdd413153", func := "convoy/convoylaw01.TickMixes", spec := "tickMixes", inPlace := ["math/bits.Add64"], plainKeys := false, apart := false }
def TickMixesSaid : Prop := tickMixesRow.holds Try.pinned (OpenSpec.ofChange tickMixesSpec)

/-- ITS FALSE NEIGHBOUR: 'it returns false'. Refute it at one input. -/
def tickMixesWrong : ChangeSpec := { name := "tickMixes", fn := fun _ => fun
  | [d1, d2, d3] => { results := [.lit (.bool false)], args := [d1, d2, d3] }
  | _ => none }
def TickMixesWrongFalsely : Prop := tickMixesRow.holds Try.pinned (OpenSpec.ofChange tickMixesWrong)

/-- 'convoylaw01.TickSums': WHATEVER THE INPUT: true; the input reads as it did. -/
def tickSumsSpec : ChangeSpec := { name := "tickSums", fn := fun _ => fun
  | [d1, d2, d3] => { results := [.lit (.bool true)], args := [d1, d2, d3] }
  | _ => none }
def tickSumsRow : OpenClaim := { program := "ytnlnfmakcnadlaa", sum := "700506670fb612948c74fbbb92b164018725af79d20dc55880113a7cdd413153", func := "convoy/convoylaw01.TickSums", spec := "tickSums", inPlace := ["math/bits.Add64"], plainKeys := false, apart := false }
def TickSumsSaid : Prop := tickSumsRow.holds Try.pinned (OpenSpec.ofChange tickSumsSpec)

/-- ITS FALSE NEIGHBOUR: 'it returns false'. Refute it at one input. -/
def tickSumsWrong : ChangeSpec := { name := "tickSums", fn := fun _ => fun
  | [d1, d2, d3] => { results := [.lit (.bool false)], args := [d1, d2, d3] }
  | _ => none }
def TickSumsWrongFalsely : Prop := tickSumsRow.holds Try.pinned (OpenSpec.ofChange tickSumsWrong)

/-- 'convoylaw17.RetryWaits': WHATEVER THE INPUT: true; the input reads as it did. -/
def retryWaitsSpec : ChangeSpec := { name := "retryWaits", fn := fun _ => fun
  | [d1, d2, d3] => { results := [.lit (.bool true)], args := [d1, d2, d3] }
  | _ => none }
def retryWaitsRow : OpenClaim := { program := "ytnlnfmakcnadlaa", sum := "700506670fb612948c74fbbb92b164018725af79d20dc55880113a7cdd413153", func := "convoy/convoylaw17.RetryWaits", spec := "retryWaits", plainKeys := false, apart := false }
def RetryWaitsSaid : Prop := retryWaitsRow.holds Try.pinned (OpenSpec.ofChange retryWaitsSpec)

/-- ITS FALSE NEIGHBOUR: 'it returns false'. Refute it at one input. -/
def retryWaitsWrong : ChangeSpec := { name := "retryWaits", fn := fun _ => fun
  | [d1, d2, d3] => { results := [.lit (.bool false)], args := [d1, d2, d3] }
  | _ => none }
def RetryWaitsWrongFalsely : Prop := retryWaitsRow.holds Try.pinned (OpenSpec.ofChange retryWaitsWrong)

/-- 'convoylaw26.TallyQuantiles': WHATEVER THE INPUT: true; the input reads as it did. -/
def tallyQuantilesSpec : ChangeSpec := { name := "tallyQuantiles", fn := fun _ => fun
  | [d1, d2, d3] => { results := [.lit (.bool true)], args := [d1, d2, d3] }
  | _ => none }
def tallyQuantilesRow : OpenClaim := { program := "ytnlnfmakcnadlaa", sum := "700506670fb612948c74fbbb92b164018725af79d20dc55880113a7cdd413153", func := "convoy/convoylaw26.TallyQuantiles", spec := "tallyQuantiles", plainKeys := false, apart := false }
def TallyQuantilesSaid : Prop := tallyQuantilesRow.holds Try.pinned (OpenSpec.ofChange tallyQuantilesSpec)

/-- ITS FALSE NEIGHBOUR: 'it returns false'. Refute it at one input. -/
def tallyQuantilesWrong : ChangeSpec := { name := "tallyQuantiles", fn := fun _ => fun
  | [d1, d2, d3] => { results := [.lit (.bool false)], args := [d1, d2, d3] }
  | _ => none }
def TallyQuantilesWrongFalsely : Prop := tallyQuantilesRow.holds Try.pinned (OpenSpec.ofChange tallyQuantilesWrong)

/-- 'convoylaw01.TickBuckets': WHATEVER THE INPUT: true; the input reads as it did. -/
def tickBucketsSpec : ChangeSpec := { name := "tickBuckets", fn := fun _ => fun
  | [d1, d2] => { results := [.lit (.bool true)], args := [d1, d2] }
  | _ => none }
def tickBucketsRow : OpenClaim := { program := "ytnlnfmakcnadlaa", sum := "700506670fb612948c74fbbb92b164018725af79d20dc55880113a7cdd413153", func := "convoy/convoylaw01.TickBuckets", spec := "tickBuckets", inPlace := ["math/bits.Add64"], plainKeys := false, apart := false }
def TickBucketsSaid : Prop := tickBucketsRow.holds Try.pinned (OpenSpec.ofChange tickBucketsSpec)

/-- ITS FALSE NEIGHBOUR: 'it returns false'. Refute it at one input. -/
def tickBucketsWrong : ChangeSpec := { name := "tickBuckets", fn := fun _ => fun
  | [d1, d2] => { results := [.lit (.bool false)], args := [d1, d2] }
  | _ => none }
def TickBucketsWrongFalsely : Prop := tickBucketsRow.holds Try.pinned (OpenSpec.ofChange tickBucketsWrong)

/-- 'convoylaw26.TallyTimes': WHATEVER THE INPUT: true; the input reads as it did. -/
def tallyTimesSpec : ChangeSpec := { name := "tallyTimes", fn := fun _ => fun
  | [d] => { results := [.lit (.bool true)], args := [d] }
  | _ => none }
def tallyTimesRow : OpenClaim := { program := "ytnlnfmakcnadlaa", sum := "700506670fb612948c74fbbb92b164018725af79d20dc55880113a7cdd413153", func := "convoy/convoylaw26.TallyTimes", spec := "tallyTimes", unfollowed := true, recurses := true, plainKeys := false, apart := false }
def TallyTimesSaid : Prop := tallyTimesRow.holds Try.pinned (OpenSpec.ofChange tallyTimesSpec)

/-- ITS FALSE NEIGHBOUR: 'it returns false'. Refute it at one input. -/
def tallyTimesWrong : ChangeSpec := { name := "tallyTimes", fn := fun _ => fun
  | [d] => { results := [.lit (.bool false)], args := [d] }
  | _ => none }
def TallyTimesWrongFalsely : Prop := tallyTimesRow.holds Try.pinned (OpenSpec.ofChange tallyTimesWrong)

/-- 'convoylaw01.TickRounds': WHATEVER THE INPUT: true; the input reads as it did. -/
def tickRoundsSpec : ChangeSpec := { name := "tickRounds", fn := fun _ => fun
  | [d1, d2, d3] => { results := [.lit (.bool true)], args := [d1, d2, d3] }
  | _ => none }
def tickRoundsRow : OpenClaim := { program := "ytnlnfmakcnadlaa", sum := "700506670fb612948c74fbbb92b164018725af79d20dc55880113a7cdd413153", func := "convoy/convoylaw01.TickRounds", spec := "tickRounds", inPlace := ["math/bits.Add64"], plainKeys := false, apart := false }
def TickRoundsSaid : Prop := tickRoundsRow.holds Try.pinned (OpenSpec.ofChange tickRoundsSpec)

/-- ITS FALSE NEIGHBOUR: 'it returns false'. Refute it at one input. -/
def tickRoundsWrong : ChangeSpec := { name := "tickRounds", fn := fun _ => fun
  | [d1, d2, d3] => { results := [.lit (.bool false)], args := [d1, d2, d3] }
  | _ => none }
def TickRoundsWrongFalsely : Prop := tickRoundsRow.holds Try.pinned (OpenSpec.ofChange tickRoundsWrong)

/-- 'convoylaw01.TickParts': WHATEVER THE INPUT: true; the input reads as it did. -/
def tickPartsSpec : ChangeSpec := { name := "tickParts", fn := fun _ => fun
  | [d1, d2, d3] => { results := [.lit (.bool true)], args := [d1, d2, d3] }
  | _ => none }
def tickPartsRow : OpenClaim := { program := "ytnlnfmakcnadlaa", sum := "700506670fb612948c74fbbb92b164018725af79d20dc55880113a7cdd413153", func := "convoy/convoylaw01.TickParts", spec := "tickParts", inPlace := ["math/bits.Add64"], plainKeys := false, apart := false }
def TickPartsSaid : Prop := tickPartsRow.holds Try.pinned (OpenSpec.ofChange tickPartsSpec)

/-- ITS FALSE NEIGHBOUR: 'it returns false'. Refute it at one input. -/
def tickPartsWrong : ChangeSpec := { name := "tickParts", fn := fun _ => fun
  | [d1, d2, d3] => { results := [.lit (.bool false)], args := [d1, d2, d3] }
  | _ => none }
def TickPartsWrongFalsely : Prop := tickPartsRow.holds Try.pinned (OpenSpec.ofChange tickPartsWrong)

/-- 'convoylaw17.RetryPlans': WHATEVER THE INPUT: true; the input reads as it did. -/
def retryPlansSpec : ChangeSpec := { name := "retryPlans", fn := fun _ => fun
  | [d1, d2] => { results := [.lit (.bool true)], args := [d1, d2] }
  | _ => none }
def retryPlansRow : OpenClaim := { program := "ytnlnfmakcnadlaa", sum := "700506670fb612948c74fbbb92b164018725af79d20dc55880113a7cdd413153", func := "convoy/convoylaw17.RetryPlans", spec := "retryPlans", inPlace := ["math/bits.Add64"], plainKeys := false, apart := false }
def RetryPlansSaid : Prop := retryPlansRow.holds Try.pinned (OpenSpec.ofChange retryPlansSpec)

/-- ITS FALSE NEIGHBOUR: 'it returns false'. Refute it at one input. -/
def retryPlansWrong : ChangeSpec := { name := "retryPlans", fn := fun _ => fun
  | [d1, d2] => { results := [.lit (.bool false)], args := [d1, d2] }
  | _ => none }
def RetryPlansWrongFalsely : Prop := retryPlansRow.holds Try.pinned (OpenSpec.ofChange retryPlansWrong)

/-- 'convoylaw17.RetryNil': WHATEVER THE INPUT: true; the input reads as it did. -/
def retryNilSpec : ChangeSpec := { name := "retryNil", fn := fun _ => fun
  | [d] => { results := [.lit (.bool true)], args := [d] }
  | _ => none }
def retryNilRow : OpenClaim := { program := "ytnlnfmakcnadlaa", sum := "700506670fb612948c74fbbb92b164018725af79d20dc55880113a7cdd413153", func := "convoy/convoylaw17.RetryNil", spec := "retryNil", plainKeys := false, apart := false }
def RetryNilSaid : Prop := retryNilRow.holds Try.pinned (OpenSpec.ofChange retryNilSpec)

/-- ITS FALSE NEIGHBOUR: 'it returns false'. Refute it at one input. -/
def retryNilWrong : ChangeSpec := { name := "retryNil", fn := fun _ => fun
  | [d] => { results := [.lit (.bool false)], args := [d] }
  | _ => none }
def RetryNilWrongFalsely : Prop := retryNilRow.holds Try.pinned (OpenSpec.ofChange retryNilWrong)

/-- 'convoylaw17.RetryBreaks': WHATEVER THE INPUT: true; the input reads as it did. -/
def retryBreaksSpec : ChangeSpec := { name := "retryBreaks", fn := fun _ => fun
  | [d1, d2, d3] => { results := [.lit (.bool true)], args := [d1, d2, d3] }
  | _ => none }
def retryBreaksRow : OpenClaim := { program := "ytnlnfmakcnadlaa", sum := "700506670fb612948c74fbbb92b164018725af79d20dc55880113a7cdd413153", func := "convoy/convoylaw17.RetryBreaks", spec := "retryBreaks", plainKeys := false, apart := false }
def RetryBreaksSaid : Prop := retryBreaksRow.holds Try.pinned (OpenSpec.ofChange retryBreaksSpec)

/-- ITS FALSE NEIGHBOUR: 'it returns false'. Refute it at one input. -/
def retryBreaksWrong : ChangeSpec := { name := "retryBreaks", fn := fun _ => fun
  | [d1, d2, d3] => { results := [.lit (.bool false)], args := [d1, d2, d3] }
  | _ => none }
def RetryBreaksWrongFalsely : Prop := retryBreaksRow.holds Try.pinned (OpenSpec.ofChange retryBreaksWrong)

/- THE SECOND FORM. 'bulk': how many values and letters a reading holds, each counted each time it is reached (what is shared counts as often as it is met; a slice's spare places count too). A statement '..UptoSaid' is the law's where the arguments, and the package variables that the reading takes, are together of bulk at most 1048576: NARROWER than '..Said'. Prove '..Said' where nothing that the law and all that it calls make is longer than what came in: it says more and counts as full. Else prove '..UptoSaid'. A law counts once. -/
mutual
def uptoBulk {H : Type} : DataW H → Nat
  | .lit (.string bytes) => bytes.length + 1
  | .lit _ => 1
  | .nil => 1
  | .ptr d => uptoBulk d + 1
  | .slice elems spare => uptoBulkAll elems + uptoBulkAll spare + 1
  | .agg parts => uptoBulkAll parts + 1
  | .iface _ d => uptoBulk d + 1
  | .map entries => uptoBulkEntries entries + 1
  | .held _ => 1
def uptoBulkAll {H : Type} : List (DataW H) → Nat
  | [] => 0
  | d :: r => uptoBulk d + uptoBulkAll r
def uptoBulkEntries {H : Type} : List (Lit × DataW H) → Nat
  | [] => 0
  | x :: r => uptoBulkEntry x + uptoBulkEntries r
def uptoBulkEntry {H : Type} : Lit × DataW H → Nat
  | (.string bytes, d) => bytes.length + uptoBulk d + 1
  | (_, d) => uptoBulk d + 1
 end
def uptoSmall : (H : Type) → List (DataW H) → Bool := fun _ ds => decide (uptoBulkAll ds ≤ 1048576)
def OpenSpec.upto (s : _root_.Go.ChangeSpec) : _root_.Go.OpenSpec := { _root_.Go.OpenSpec.ofChange s with cond := some uptoSmall }

/-- 'convoylaw26.TallyCounts', WHERE WHAT IT READS IS OF BULK AT MOST 1048576: true; the input reads as it did. -/
def tallyCountsUptoRow : OpenClaim := { program := "ytnlnfmakcnadlaa", sum := "700506670fb612948c74fbbb92b164018725af79d20dc55880113a7cdd413153", func := "convoy/convoylaw26.TallyCounts", spec := "tallyCounts", plainKeys := false, apart := false, narrowed := true }
def TallyCountsUptoSaid : Prop := tallyCountsUptoRow.holds Try.pinned (OpenSpec.upto tallyCountsSpec)

/-- 'convoylaw01.TickAges', WHERE WHAT IT READS IS OF BULK AT MOST 1048576: true; the input reads as it did. -/
def tickAgesUptoRow : OpenClaim := { program := "ytnlnfmakcnadlaa", sum := "700506670fb612948c74fbbb92b164018725af79d20dc55880113a7cdd413153", func := "convoy/convoylaw01.TickAges", spec := "tickAges", inPlace := ["math/bits.Add64"], plainKeys := false, apart := false, narrowed := true }
def TickAgesUptoSaid : Prop := tickAgesUptoRow.holds Try.pinned (OpenSpec.upto tickAgesSpec)

/-- 'convoylaw01.TickMixes', WHERE WHAT IT READS IS OF BULK AT MOST 1048576: true; the input reads as it did. -/
def tickMixesUptoRow : OpenClaim := { program := "ytnlnfmakcnadlaa", sum := "700506670fb612948c74fbbb92b164018725af79d20dc55880113a7cdd413153", func := "convoy/convoylaw01.TickMixes", spec := "tickMixes", inPlace := ["math/bits.Add64"], plainKeys := false, apart := false, narrowed := true }
def TickMixesUptoSaid : Prop := tickMixesUptoRow.holds Try.pinned (OpenSpec.upto tickMixesSpec)

/-- 'convoylaw01.TickSums', WHERE WHAT IT READS IS OF BULK AT MOST 1048576: true; the input reads as it did. -/
def tickSumsUptoRow : OpenClaim := { program := "ytnlnfmakcnadlaa", sum := "700506670fb612948c74fbbb92b164018725af79d20dc55880113a7cdd413153", func := "convoy/convoylaw01.TickSums", spec := "tickSums", inPlace := ["math/bits.Add64"], plainKeys := false, apart := false, narrowed := true }
def TickSumsUptoSaid : Prop := tickSumsUptoRow.holds Try.pinned (OpenSpec.upto tickSumsSpec)

/-- 'convoylaw17.RetryWaits', WHERE WHAT IT READS IS OF BULK AT MOST 1048576: true; the input reads as it did. -/
def retryWaitsUptoRow : OpenClaim := { program := "ytnlnfmakcnadlaa", sum := "700506670fb612948c74fbbb92b164018725af79d20dc55880113a7cdd413153", func := "convoy/convoylaw17.RetryWaits", spec := "retryWaits", plainKeys := false, apart := false, narrowed := true }
def RetryWaitsUptoSaid : Prop := retryWaitsUptoRow.holds Try.pinned (OpenSpec.upto retryWaitsSpec)

/-- 'convoylaw26.TallyQuantiles', WHERE WHAT IT READS IS OF BULK AT MOST 1048576: true; the input reads as it did. -/
def tallyQuantilesUptoRow : OpenClaim := { program := "ytnlnfmakcnadlaa", sum := "700506670fb612948c74fbbb92b164018725af79d20dc55880113a7cdd413153", func := "convoy/convoylaw26.TallyQuantiles", spec := "tallyQuantiles", plainKeys := false, apart := false, narrowed := true }
def TallyQuantilesUptoSaid : Prop := tallyQuantilesUptoRow.holds Try.pinned (OpenSpec.upto tallyQuantilesSpec)

/-- 'convoylaw01.TickBuckets', WHERE WHAT IT READS IS OF BULK AT MOST 1048576: true; the input reads as it did. -/
def tickBucketsUptoRow : OpenClaim := { program := "ytnlnfmakcnadlaa", sum := "700506670fb612948c74fbbb92b164018725af79d20dc55880113a7cdd413153", func := "convoy/convoylaw01.TickBuckets", spec := "tickBuckets", inPlace := ["math/bits.Add64"], plainKeys := false, apart := false, narrowed := true }
def TickBucketsUptoSaid : Prop := tickBucketsUptoRow.holds Try.pinned (OpenSpec.upto tickBucketsSpec)

/-- 'convoylaw26.TallyTimes', WHERE WHAT IT READS IS OF BULK AT MOST 1048576: true; the input reads as it did. -/
def tallyTimesUptoRow : OpenClaim := { program := "ytnlnfmakcnadlaa", sum := "700506670fb612948c74fbbb92b164018725af79d20dc55880113a7cdd413153", func := "convoy/convoylaw26.TallyTimes", spec := "tallyTimes", unfollowed := true, recurses := true, plainKeys := false, apart := false, narrowed := true }
def TallyTimesUptoSaid : Prop := tallyTimesUptoRow.holds Try.pinned (OpenSpec.upto tallyTimesSpec)

/-- 'convoylaw01.TickRounds', WHERE WHAT IT READS IS OF BULK AT MOST 1048576: true; the input reads as it did. -/
def tickRoundsUptoRow : OpenClaim := { program := "ytnlnfmakcnadlaa", sum := "700506670fb612948c74fbbb92b164018725af79d20dc55880113a7cdd413153", func := "convoy/convoylaw01.TickRounds", spec := "tickRounds", inPlace := ["math/bits.Add64"], plainKeys := false, apart := false, narrowed := true }
def TickRoundsUptoSaid : Prop := tickRoundsUptoRow.holds Try.pinned (OpenSpec.upto tickRoundsSpec)

/-- 'convoylaw01.TickParts', WHERE WHAT IT READS IS OF BULK AT MOST 1048576: true; the input reads as it did. -/
def tickPartsUptoRow : OpenClaim := { program := "ytnlnfmakcnadlaa", sum := "700506670fb612948c74fbbb92b164018725af79d20dc55880113a7cdd413153", func := "convoy/convoylaw01.TickParts", spec := "tickParts", inPlace := ["math/bits.Add64"], plainKeys := false, apart := false, narrowed := true }
def TickPartsUptoSaid : Prop := tickPartsUptoRow.holds Try.pinned (OpenSpec.upto tickPartsSpec)

/-- 'convoylaw17.RetryPlans', WHERE WHAT IT READS IS OF BULK AT MOST 1048576: true; the input reads as it did. -/
def retryPlansUptoRow : OpenClaim := { program := "ytnlnfmakcnadlaa", sum := "700506670fb612948c74fbbb92b164018725af79d20dc55880113a7cdd413153", func := "convoy/convoylaw17.RetryPlans", spec := "retryPlans", inPlace := ["math/bits.Add64"], plainKeys := false, apart := false, narrowed := true }
def RetryPlansUptoSaid : Prop := retryPlansUptoRow.holds Try.pinned (OpenSpec.upto retryPlansSpec)

/-- 'convoylaw17.RetryNil', WHERE WHAT IT READS IS OF BULK AT MOST 1048576: true; the input reads as it did. -/
def retryNilUptoRow : OpenClaim := { program := "ytnlnfmakcnadlaa", sum := "700506670fb612948c74fbbb92b164018725af79d20dc55880113a7cdd413153", func := "convoy/convoylaw17.RetryNil", spec := "retryNil", plainKeys := false, apart := false, narrowed := true }
def RetryNilUptoSaid : Prop := retryNilUptoRow.holds Try.pinned (OpenSpec.upto retryNilSpec)

/-- 'convoylaw17.RetryBreaks', WHERE WHAT IT READS IS OF BULK AT MOST 1048576: true; the input reads as it did. -/
def retryBreaksUptoRow : OpenClaim := { program := "ytnlnfmakcnadlaa", sum := "700506670fb612948c74fbbb92b164018725af79d20dc55880113a7cdd413153", func := "convoy/convoylaw17.RetryBreaks", spec := "retryBreaks", plainKeys := false, apart := false, narrowed := true }
def RetryBreaksUptoSaid : Prop := retryBreaksUptoRow.holds Try.pinned (OpenSpec.upto retryBreaksSpec)

end Rows
end Go.Proofs.Ytnlnfmakcnadlaa
