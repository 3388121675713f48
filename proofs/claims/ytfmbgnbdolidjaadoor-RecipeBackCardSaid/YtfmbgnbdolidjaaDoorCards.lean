/-
  DERIVED. GIVEN WITH THE SEED: THE CARDS: each row of YtfmbgnbdolidjaaDoorRows.lean that lists a variable, with what it lists TIED to the program's text (the seventh form; the later family's looks); each row that meets fmt, with fmt's text TOLD by the authors' own Lean function (tested against real Go, not proved from fmt's source: count such statements apart). THE CARD IS WHAT COUNTS. Prove the row's statement (the work); the ties are given (YtfmbgnbdolidjaaDoorTie.lean); close each card by the builder's one call (the guide's Derived/Test/ToyasCard.lean, 'card_holds'). Laid BY PROGRAM, IN A SANDBOX (cutbox-door.mjs). By AI agents, Wed Nov 11 2026. No macro, syntax, notation, axiom, sorry.
-/
import Derived.Test.YtfmbgnbdolidjaaDoorRows
import GoSem.ClaimSeven
namespace Go.Proofs.YtfmbgnbdolidjaaDoor
namespace Rows

/-- THE TIED CARD OF 'convoylaw08.RecipeTexts'. -/
def recipeTextsCard : Claim7 := { stood := { row := recipeTextsRow, standIns := [], harness := (true, "83b5a2358c324843a655e17dcff0ddcf155549d6de65660fe78d2369fb2a3a5f"), looks := true }, kinds := [], alts := [], laidByText := true, laidKinds := [.data, .data, .data, .data, .sentinel, .sentinel, .pinned], laidTests := true, laidLooks := .later }
def RecipeTextsCardSaid : Prop := Claim7.holds Tryd.pinned (.plain (OpenSpec.ofChange recipeTextsSpec)) recipeTextsCard

/-- THE TIED CARD OF 'convoylaw08.RecipeBack'. -/
def recipeBackCard : Claim7 := { stood := { row := recipeBackRow, standIns := [], harness := (true, "83b5a2358c324843a655e17dcff0ddcf155549d6de65660fe78d2369fb2a3a5f"), looks := true }, kinds := [], alts := [], laidByText := true, laidKinds := [.data, .data, .data, .data, .sentinel, .sentinel, .pinned], laidTests := true, laidLooks := .later }
def RecipeBackCardSaid : Prop := Claim7.holds Tryd.pinned (.plain (OpenSpec.ofChange recipeBackSpec)) recipeBackCard

/-- THE SECOND FORM's CARD OF 'convoylaw08.RecipeTexts'. -/
def recipeTextsUptoCard : Claim7 := { stood := { row := recipeTextsUptoRow, standIns := [], harness := (true, "83b5a2358c324843a655e17dcff0ddcf155549d6de65660fe78d2369fb2a3a5f"), looks := true }, kinds := [], alts := [], laidByText := true, laidKinds := [.data, .data, .data, .data, .sentinel, .sentinel, .pinned], laidTests := true, laidLooks := .later }
def RecipeTextsUptoCardSaid : Prop := Claim7.holds Tryd.pinned (.plain (OpenSpec.upto recipeTextsSpec)) recipeTextsUptoCard

/-- THE SECOND FORM's CARD OF 'convoylaw08.RecipeBack'. -/
def recipeBackUptoCard : Claim7 := { stood := { row := recipeBackUptoRow, standIns := [], harness := (true, "83b5a2358c324843a655e17dcff0ddcf155549d6de65660fe78d2369fb2a3a5f"), looks := true }, kinds := [], alts := [], laidByText := true, laidKinds := [.data, .data, .data, .data, .sentinel, .sentinel, .pinned], laidTests := true, laidLooks := .later }
def RecipeBackUptoCardSaid : Prop := Claim7.holds Tryd.pinned (.plain (OpenSpec.upto recipeBackSpec)) recipeBackUptoCard
end Rows
end Go.Proofs.YtfmbgnbdolidjaaDoor
