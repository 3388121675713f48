/-
  DERIVED. GIVEN WITH THE SEED: THE CARDS: each row of YtaakmifjkobkgaaDoorRows.lean that lists a variable, with what it lists TIED to the program's text (the seventh form; the later family's looks); each row that meets fmt, with fmt's text TOLD by the authors' own Lean function (tested against real Go, not proved from fmt's source: count such statements apart). THE CARD IS WHAT COUNTS. Prove the row's statement (the work); the ties are given (YtaakmifjkobkgaaDoorTie.lean); close each card by the builder's one call (the guide's Derived/Test/ToyasCard.lean, 'card_holds'). Laid BY PROGRAM, IN A SANDBOX (cutbox-door.mjs). By AI agents, Wed Nov 11 2026. No macro, syntax, notation, axiom, sorry.
-/
import Derived.Test.YtaakmifjkobkgaaDoorRows
import GoSem.ClaimSeven
namespace Go.Proofs.YtaakmifjkobkgaaDoor
namespace Rows

/-- THE TIED CARD OF 'convoylaw29.StoryNames'. -/
def storyNamesCard : Claim7 := { stood := { row := storyNamesRow, standIns := [], harness := (true, "18bc8f18666dd5591a3a4adf77d4be849783ca885b70459a2c5303550e142302"), looks := false }, kinds := [], alts := [], laidByText := true, laidKinds := [.data, .data, .data], laidTests := true, laidLooks := .later }
def StoryNamesCardSaid : Prop := Claim7.holds Tryd.pinned (.plain (OpenSpec.ofChange storyNamesSpec)) storyNamesCard

/-- THE TIED CARD OF 'convoylaw29.StoryDraws'. -/
def storyDrawsCard : Claim7 := { stood := { row := storyDrawsRow, standIns := [], harness := (true, "18bc8f18666dd5591a3a4adf77d4be849783ca885b70459a2c5303550e142302"), looks := false }, kinds := [], alts := [], laidByText := true, laidKinds := [.data, .data, .data], laidTests := true, laidLooks := .later }
def StoryDrawsCardSaid : Prop := Claim7.holds Tryd.pinned (.plain (OpenSpec.ofChange storyDrawsSpec)) storyDrawsCard

/-- THE TIED CARD OF 'convoylaw29.StoryMakes'. -/
def storyMakesCard : Claim7 := { stood := { row := storyMakesRow, standIns := [], harness := (true, "18bc8f18666dd5591a3a4adf77d4be849783ca885b70459a2c5303550e142302"), looks := false }, kinds := [], alts := [], laidByText := true, laidKinds := [.data, .data, .data], laidTests := true, laidLooks := .later }
def StoryMakesCardSaid : Prop := Claim7.holds Tryd.pinned (.plain (OpenSpec.ofChange storyMakesSpec)) storyMakesCard

/-- THE SECOND FORM's CARD OF 'convoylaw29.StoryNames'. -/
def storyNamesUptoCard : Claim7 := { stood := { row := storyNamesUptoRow, standIns := [], harness := (true, "18bc8f18666dd5591a3a4adf77d4be849783ca885b70459a2c5303550e142302"), looks := false }, kinds := [], alts := [], laidByText := true, laidKinds := [.data, .data, .data], laidTests := true, laidLooks := .later }
def StoryNamesUptoCardSaid : Prop := Claim7.holds Tryd.pinned (.plain (OpenSpec.upto storyNamesSpec)) storyNamesUptoCard

/-- THE SECOND FORM's CARD OF 'convoylaw29.StoryDraws'. -/
def storyDrawsUptoCard : Claim7 := { stood := { row := storyDrawsUptoRow, standIns := [], harness := (true, "18bc8f18666dd5591a3a4adf77d4be849783ca885b70459a2c5303550e142302"), looks := false }, kinds := [], alts := [], laidByText := true, laidKinds := [.data, .data, .data], laidTests := true, laidLooks := .later }
def StoryDrawsUptoCardSaid : Prop := Claim7.holds Tryd.pinned (.plain (OpenSpec.upto storyDrawsSpec)) storyDrawsUptoCard

/-- THE SECOND FORM's CARD OF 'convoylaw29.StoryMakes'. -/
def storyMakesUptoCard : Claim7 := { stood := { row := storyMakesUptoRow, standIns := [], harness := (true, "18bc8f18666dd5591a3a4adf77d4be849783ca885b70459a2c5303550e142302"), looks := false }, kinds := [], alts := [], laidByText := true, laidKinds := [.data, .data, .data], laidTests := true, laidLooks := .later }
def StoryMakesUptoCardSaid : Prop := Claim7.holds Tryd.pinned (.plain (OpenSpec.upto storyMakesSpec)) storyMakesUptoCard
end Rows
end Go.Proofs.YtaakmifjkobkgaaDoor
