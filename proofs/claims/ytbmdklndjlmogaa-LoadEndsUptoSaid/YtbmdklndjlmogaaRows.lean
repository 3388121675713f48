/-
  No cell of these rows narrows 'for every input' (looked for: loops, veiled, ifaces, maps, wideKeys, modest, calm, conditions, laid).
  DERIVED. THE GIVEN ROWS OF THIS SEAT. 3 by the template 'for every input the law returns true; each argument reads behind the call as it read before'; 0 by the template 'total and deterministic' (their statements: YtbmdklndjlmogaaTotals.lean).
  GIVEN WITH THE SEED: the statements are not yours to turn. If you find one false, say at which input.
  Laid BY PROGRAM, IN A SANDBOX (cutbox-rows.mjs): the forced cells as the released guide's own fill.sh prints them over the translation 9779149d18fdb695… (all of the seat's roots in one cut). By AI agents, Wed Nov 11 2026. No macro, syntax, notation, axiom, sorry.
-/
import Derived.Test.YtbmdklndjlmogaaChecked
import GoSem.Claim
import GoSem.ClaimJoined
import GoSem.ClaimMapViews
import Derived.JoinedTies
import Derived.KernelRfl
namespace Go.Proofs.Ytbmdklndjlmogaa
/- THE CELL 'sum', in the pinned program and in every row, IS THE sha256 OF THE DUMP (.gsa) THAT YtbmdklndjlmogaaProg.lean LOADS. Nothing in Lean hashes anything: it is a label: what it is worth is what the hold of that sum in a sandbox is worth. -/
noncomputable def Try.pinned : Pinned := { name := "ytbmdklndjlmogaa", sum := "9779149d18fdb69575baf9bc85340665369d00f0daf7764a857a657ab1b61b7b", checked := Try.checked }
namespace Rows
def none {H : Type} : Left H := { results := [], args := [] }

/-- 'convoylaw14.LoadEnds': WHATEVER THE INPUT: true; the input reads as it did. -/
def loadEndsSpec : ChangeSpec := { name := "loadEnds", fn := fun _ => fun
  | [d] => { results := [.lit (.bool true)], args := [d] }
  | _ => none }
def loadEndsRow : OpenClaim := { program := "ytbmdklndjlmogaa", sum := "9779149d18fdb69575baf9bc85340665369d00f0daf7764a857a657ab1b61b7b", func := "convoy/convoylaw14.LoadEnds", spec := "loadEnds", inPlace := ["slices.overlaps[int64]"], unfollowed := true, recurses := true, apart := false }
def LoadEndsSaid : Prop := loadEndsRow.holds Try.pinned (OpenSpec.ofChange loadEndsSpec)

/-- ITS FALSE NEIGHBOUR: 'it returns false'. Refute it at one input. -/
def loadEndsWrong : ChangeSpec := { name := "loadEnds", fn := fun _ => fun
  | [d] => { results := [.lit (.bool false)], args := [d] }
  | _ => none }
def LoadEndsWrongFalsely : Prop := loadEndsRow.holds Try.pinned (OpenSpec.ofChange loadEndsWrong)

/-- 'convoylaw14.LoadNil': WHATEVER THE INPUT: true; the input reads as it did. -/
def loadNilSpec : ChangeSpec := { name := "loadNil", fn := fun _ => fun
  | [d1, d2] => { results := [.lit (.bool true)], args := [d1, d2] }
  | _ => none }
def loadNilRow : OpenClaim := { program := "ytbmdklndjlmogaa", sum := "9779149d18fdb69575baf9bc85340665369d00f0daf7764a857a657ab1b61b7b", func := "convoy/convoylaw14.LoadNil", spec := "loadNil", inPlace := ["slices.overlaps[int64]"], unfollowed := true, recurses := true, apart := false }
def LoadNilSaid : Prop := loadNilRow.holds Try.pinned (OpenSpec.ofChange loadNilSpec)

/-- ITS FALSE NEIGHBOUR: 'it returns false'. Refute it at one input. -/
def loadNilWrong : ChangeSpec := { name := "loadNil", fn := fun _ => fun
  | [d1, d2] => { results := [.lit (.bool false)], args := [d1, d2] }
  | _ => none }
def LoadNilWrongFalsely : Prop := loadNilRow.holds Try.pinned (OpenSpec.ofChange loadNilWrong)

/-- 'convoylaw14.LoadAlone': WHATEVER THE INPUT: true; the input reads as it did. -/
def loadAloneSpec : ChangeSpec := { name := "loadAlone", fn := fun _ => fun
  | [d] => { results := [.lit (.bool true)], args := [d] }
  | _ => none }
def loadAloneRow : OpenClaim := { program := "ytbmdklndjlmogaa", sum := "9779149d18fdb69575baf9bc85340665369d00f0daf7764a857a657ab1b61b7b", func := "convoy/convoylaw14.LoadAlone", spec := "loadAlone", inPlace := ["slices.overlaps[int64]"], unfollowed := true, recurses := true, apart := false }
def LoadAloneSaid : Prop := loadAloneRow.holds Try.pinned (OpenSpec.ofChange loadAloneSpec)

/-- ITS FALSE NEIGHBOUR: 'it returns false'. Refute it at one input. -/
def loadAloneWrong : ChangeSpec := { name := "loadAlone", fn := fun _ => fun
  | [d] => { results := [.lit (.bool false)], args := [d] }
  | _ => none }
def LoadAloneWrongFalsely : Prop := loadAloneRow.holds Try.pinned (OpenSpec.ofChange loadAloneWrong)

/- THE SECOND FORM. 'bulk': how many values and letters a reading holds, each counted each time it is reached (what is shared counts as often as it is met; a slice's spare places count too). A statement '..UptoSaid' is the law's where the arguments, and the package variables that the reading takes, are together of bulk at most 1048576: NARROWER than '..Said'. Prove '..Said' where nothing that the law and all that it calls make is longer than what came in: it says more and counts as full. Else prove '..UptoSaid'. A law counts once. -/
mutual
def uptoBulk {H : Type} : DataW H → Nat
  | .lit (.string bytes) => bytes.length + 1
  | .lit _ => 1
  | .nil => 1
  | .ptr d => uptoBulk d + 1
  | .slice elems spare => uptoBulkAll elems + uptoBulkAll spare + 1
  | .agg parts => uptoBulkAll parts + 1
  | .iface _ d => uptoBulk d + 1
  | .map entries => uptoBulkEntries entries + 1
  | .held _ => 1
def uptoBulkAll {H : Type} : List (DataW H) → Nat
  | [] => 0
  | d :: r => uptoBulk d + uptoBulkAll r
def uptoBulkEntries {H : Type} : List (Lit × DataW H) → Nat
  | [] => 0
  | x :: r => uptoBulkEntry x + uptoBulkEntries r
def uptoBulkEntry {H : Type} : Lit × DataW H → Nat
  | (.string bytes, d) => bytes.length + uptoBulk d + 1
  | (_, d) => uptoBulk d + 1
 end
def uptoSmall : (H : Type) → List (DataW H) → Bool := fun _ ds => decide (uptoBulkAll ds ≤ 1048576)
def OpenSpec.upto (s : _root_.Go.ChangeSpec) : _root_.Go.OpenSpec := { _root_.Go.OpenSpec.ofChange s with cond := some uptoSmall }

/-- 'convoylaw14.LoadEnds', WHERE WHAT IT READS IS OF BULK AT MOST 1048576: true; the input reads as it did. -/
def loadEndsUptoRow : OpenClaim := { program := "ytbmdklndjlmogaa", sum := "9779149d18fdb69575baf9bc85340665369d00f0daf7764a857a657ab1b61b7b", func := "convoy/convoylaw14.LoadEnds", spec := "loadEnds", inPlace := ["slices.overlaps[int64]"], unfollowed := true, recurses := true, apart := false, narrowed := true }
def LoadEndsUptoSaid : Prop := loadEndsUptoRow.holds Try.pinned (OpenSpec.upto loadEndsSpec)

/-- 'convoylaw14.LoadNil', WHERE WHAT IT READS IS OF BULK AT MOST 1048576: true; the input reads as it did. -/
def loadNilUptoRow : OpenClaim := { program := "ytbmdklndjlmogaa", sum := "9779149d18fdb69575baf9bc85340665369d00f0daf7764a857a657ab1b61b7b", func := "convoy/convoylaw14.LoadNil", spec := "loadNil", inPlace := ["slices.overlaps[int64]"], unfollowed := true, recurses := true, apart := false, narrowed := true }
def LoadNilUptoSaid : Prop := loadNilUptoRow.holds Try.pinned (OpenSpec.upto loadNilSpec)

/-- 'convoylaw14.LoadAlone', WHERE WHAT IT READS IS OF BULK AT MOST 1048576: true; the input reads as it did. -/
def loadAloneUptoRow : OpenClaim := { program := "ytbmdklndjlmogaa", sum := "9779149d18fdb69575baf9bc85340665369d00f0daf7764a857a657ab1b61b7b", func := "convoy/convoylaw14.LoadAlone", spec := "loadAlone", inPlace := ["slices.overlaps[int64]"], unfollowed := true, recurses := true, apart := false, narrowed := true }
def LoadAloneUptoSaid : Prop := loadAloneUptoRow.holds Try.pinned (OpenSpec.upto loadAloneSpec)

end Rows
end Go.Proofs.Ytbmdklndjlmogaa
