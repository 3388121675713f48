/-
  DERIVED. GIVEN WITH THE SEED: THE CARDS: each row of YthpcpofcadpijaaDoorRows.lean that lists a variable, with what it lists TIED to the program's text (the seventh form; the later family's looks); each row that meets fmt, with fmt's text TOLD by the authors' own Lean function (tested against real Go, not proved from fmt's source: count such statements apart). THE CARD IS WHAT COUNTS. Prove the row's statement (the work); the ties are given (YthpcpofcadpijaaDoorTie.lean); close each card by the builder's one call (the guide's Derived/Test/ToyasCard.lean, 'card_holds'). Laid BY PROGRAM, IN A SANDBOX (cutbox-door.mjs). By AI agents, Wed Nov 11 2026. No macro, syntax, notation, axiom, sorry.
-/
import Derived.Test.YthpcpofcadpijaaDoorRows
import GoSem.ClaimSeven
namespace Go.Proofs.YthpcpofcadpijaaDoor
namespace Rows

/-- THE TIED CARD OF 'convoylaw21.ClientKeys'. -/
def clientKeysCard : Claim7 := { stood := { row := clientKeysRow, standIns := [], harness := (true, "921c1bde007d7d42290a82cb2abcaf7a87455635990550b48dac2a975ff12677"), looks := true }, kinds := [], alts := [], laidByText := true, laidKinds := [.data, .data, .data], laidTests := true, laidLooks := .later }
def ClientKeysCardSaid : Prop := Claim7.holds Tryd.pinned (.plain (OpenSpec.ofChange clientKeysSpec)) clientKeysCard

/-- THE TIED CARD OF 'convoylaw21.ClientPlays'. -/
def clientPlaysCard : Claim7 := { stood := { row := clientPlaysRow, standIns := [], harness := (true, "921c1bde007d7d42290a82cb2abcaf7a87455635990550b48dac2a975ff12677"), looks := true }, kinds := [], alts := [], laidByText := true, laidKinds := [.data, .data, .data], laidTests := true, laidLooks := .later }
def ClientPlaysCardSaid : Prop := Claim7.holds Tryd.pinned (.plain (OpenSpec.ofChange clientPlaysSpec)) clientPlaysCard

/-- THE TIED CARD OF 'convoylaw21.ClientNil'. -/
def clientNilCard : Claim7 := { stood := { row := clientNilRow, standIns := [], harness := (true, "921c1bde007d7d42290a82cb2abcaf7a87455635990550b48dac2a975ff12677"), looks := true }, kinds := [], alts := [], laidByText := true, laidKinds := [.data, .data, .data], laidTests := true, laidLooks := .later }
def ClientNilCardSaid : Prop := Claim7.holds Tryd.pinned (.plain (OpenSpec.ofChange clientNilSpec)) clientNilCard

/-- THE TIED CARD OF 'convoylaw21.ClientTexts'. -/
def clientTextsCard : Claim7 := { stood := { row := clientTextsRow, standIns := [], harness := (true, "921c1bde007d7d42290a82cb2abcaf7a87455635990550b48dac2a975ff12677"), looks := true }, kinds := [], alts := [], laidByText := true, laidKinds := [.data, .data, .data, .sentinel, .sentinel], laidTests := true, laidLooks := .later }
def ClientTextsCardSaid : Prop := Claim7.holds Tryd.pinned (.plain (OpenSpec.ofChange clientTextsSpec)) clientTextsCard

/-- THE SECOND FORM's CARD OF 'convoylaw21.ClientKeys'. -/
def clientKeysUptoCard : Claim7 := { stood := { row := clientKeysUptoRow, standIns := [], harness := (true, "921c1bde007d7d42290a82cb2abcaf7a87455635990550b48dac2a975ff12677"), looks := true }, kinds := [], alts := [], laidByText := true, laidKinds := [.data, .data, .data], laidTests := true, laidLooks := .later }
def ClientKeysUptoCardSaid : Prop := Claim7.holds Tryd.pinned (.plain (OpenSpec.upto clientKeysSpec)) clientKeysUptoCard

/-- THE SECOND FORM's CARD OF 'convoylaw21.ClientPlays'. -/
def clientPlaysUptoCard : Claim7 := { stood := { row := clientPlaysUptoRow, standIns := [], harness := (true, "921c1bde007d7d42290a82cb2abcaf7a87455635990550b48dac2a975ff12677"), looks := true }, kinds := [], alts := [], laidByText := true, laidKinds := [.data, .data, .data], laidTests := true, laidLooks := .later }
def ClientPlaysUptoCardSaid : Prop := Claim7.holds Tryd.pinned (.plain (OpenSpec.upto clientPlaysSpec)) clientPlaysUptoCard

/-- THE SECOND FORM's CARD OF 'convoylaw21.ClientNil'. -/
def clientNilUptoCard : Claim7 := { stood := { row := clientNilUptoRow, standIns := [], harness := (true, "921c1bde007d7d42290a82cb2abcaf7a87455635990550b48dac2a975ff12677"), looks := true }, kinds := [], alts := [], laidByText := true, laidKinds := [.data, .data, .data], laidTests := true, laidLooks := .later }
def ClientNilUptoCardSaid : Prop := Claim7.holds Tryd.pinned (.plain (OpenSpec.upto clientNilSpec)) clientNilUptoCard

/-- THE SECOND FORM's CARD OF 'convoylaw21.ClientTexts'. -/
def clientTextsUptoCard : Claim7 := { stood := { row := clientTextsUptoRow, standIns := [], harness := (true, "921c1bde007d7d42290a82cb2abcaf7a87455635990550b48dac2a975ff12677"), looks := true }, kinds := [], alts := [], laidByText := true, laidKinds := [.data, .data, .data, .sentinel, .sentinel], laidTests := true, laidLooks := .later }
def ClientTextsUptoCardSaid : Prop := Claim7.holds Tryd.pinned (.plain (OpenSpec.upto clientTextsSpec)) clientTextsUptoCard
end Rows
end Go.Proofs.YthpcpofcadpijaaDoor
