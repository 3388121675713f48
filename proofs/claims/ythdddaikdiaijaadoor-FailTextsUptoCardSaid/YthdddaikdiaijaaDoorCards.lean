/-
  DERIVED. GIVEN WITH THE SEED: THE CARDS: each row of YthdddaikdiaijaaDoorRows.lean that lists a variable, with what it lists TIED to the program's text (the seventh form; the later family's looks); each row that meets fmt, with fmt's text TOLD by the authors' own Lean function (tested against real Go, not proved from fmt's source: count such statements apart). THE CARD IS WHAT COUNTS. Prove the row's statement (the work); the ties are given (YthdddaikdiaijaaDoorTie.lean); close each card by the builder's one call (the guide's Derived/Test/ToyasCard.lean, 'card_holds'). Laid BY PROGRAM, IN A SANDBOX (cutbox-door.mjs). By AI agents, Wed Nov 11 2026. No macro, syntax, notation, axiom, sorry.
-/
import Derived.Test.YthdddaikdiaijaaDoorRows
import GoSem.ClaimSeven
namespace Go.Proofs.YthdddaikdiaijaaDoor
namespace Rows

/-- THE TIED CARD OF 'convoylaw03.FailKinds'. -/
def failKindsCard : Claim7 := { stood := { row := failKindsRow, standIns := [], harness := (true, "e544dc0862b368096ec2a8675c7f436662d965fd1093085cf625992c36b0fd84"), looks := true }, kinds := [], alts := [], laidByText := true, laidKinds := [.data, .data, .data, .handle], laidTests := true, laidLooks := .later }
def FailKindsCardSaid : Prop := Claim7.holds Tryd.pinned (.plain (OpenSpec.ofChange failKindsSpec)) failKindsCard

/-- THE TIED CARD OF 'convoylaw03.FailErrors'. -/
def failErrorsCard : Claim7 := { stood := { row := failErrorsRow, standIns := [], harness := (true, "e544dc0862b368096ec2a8675c7f436662d965fd1093085cf625992c36b0fd84"), looks := true }, kinds := [], alts := [], laidByText := true, laidKinds := [.data, .data, .data, .handle], laidTests := true, laidLooks := .later }
def FailErrorsCardSaid : Prop := Claim7.holds Tryd.pinned (.plain (OpenSpec.ofChange failErrorsSpec)) failErrorsCard

/-- THE TIED CARD OF 'convoylaw03.FailChecks'. -/
def failChecksCard : Claim7 := { stood := { row := failChecksRow, standIns := [], harness := (true, "e544dc0862b368096ec2a8675c7f436662d965fd1093085cf625992c36b0fd84"), looks := true }, kinds := [], alts := [], laidByText := true, laidKinds := [.data, .data, .data, .handle], laidTests := true, laidLooks := .later }
def FailChecksCardSaid : Prop := Claim7.holds Tryd.pinned (.plain (OpenSpec.ofChange failChecksSpec)) failChecksCard

/-- THE TIED CARD OF 'convoylaw03.FailTexts'. -/
def failTextsCard : Claim7 := { stood := { row := failTextsRow, standIns := [], harness := (true, "e544dc0862b368096ec2a8675c7f436662d965fd1093085cf625992c36b0fd84"), looks := true }, kinds := [], alts := [], laidByText := true, laidKinds := [.data, .data, .data, .data, .handle, .sentinel, .sentinel, .pinned], laidTests := true, laidLooks := .later }
def FailTextsCardSaid : Prop := Claim7.holds Tryd.pinned (.plain (OpenSpec.ofChange failTextsSpec)) failTextsCard

/-- THE SECOND FORM's CARD OF 'convoylaw03.FailKinds'. -/
def failKindsUptoCard : Claim7 := { stood := { row := failKindsUptoRow, standIns := [], harness := (true, "e544dc0862b368096ec2a8675c7f436662d965fd1093085cf625992c36b0fd84"), looks := true }, kinds := [], alts := [], laidByText := true, laidKinds := [.data, .data, .data, .handle], laidTests := true, laidLooks := .later }
def FailKindsUptoCardSaid : Prop := Claim7.holds Tryd.pinned (.plain (OpenSpec.upto failKindsSpec)) failKindsUptoCard

/-- THE SECOND FORM's CARD OF 'convoylaw03.FailErrors'. -/
def failErrorsUptoCard : Claim7 := { stood := { row := failErrorsUptoRow, standIns := [], harness := (true, "e544dc0862b368096ec2a8675c7f436662d965fd1093085cf625992c36b0fd84"), looks := true }, kinds := [], alts := [], laidByText := true, laidKinds := [.data, .data, .data, .handle], laidTests := true, laidLooks := .later }
def FailErrorsUptoCardSaid : Prop := Claim7.holds Tryd.pinned (.plain (OpenSpec.upto failErrorsSpec)) failErrorsUptoCard

/-- THE SECOND FORM's CARD OF 'convoylaw03.FailChecks'. -/
def failChecksUptoCard : Claim7 := { stood := { row := failChecksUptoRow, standIns := [], harness := (true, "e544dc0862b368096ec2a8675c7f436662d965fd1093085cf625992c36b0fd84"), looks := true }, kinds := [], alts := [], laidByText := true, laidKinds := [.data, .data, .data, .handle], laidTests := true, laidLooks := .later }
def FailChecksUptoCardSaid : Prop := Claim7.holds Tryd.pinned (.plain (OpenSpec.upto failChecksSpec)) failChecksUptoCard

/-- THE SECOND FORM's CARD OF 'convoylaw03.FailTexts'. -/
def failTextsUptoCard : Claim7 := { stood := { row := failTextsUptoRow, standIns := [], harness := (true, "e544dc0862b368096ec2a8675c7f436662d965fd1093085cf625992c36b0fd84"), looks := true }, kinds := [], alts := [], laidByText := true, laidKinds := [.data, .data, .data, .data, .handle, .sentinel, .sentinel, .pinned], laidTests := true, laidLooks := .later }
def FailTextsUptoCardSaid : Prop := Claim7.holds Tryd.pinned (.plain (OpenSpec.upto failTextsSpec)) failTextsUptoCard
end Rows
end Go.Proofs.YthdddaikdiaijaaDoor
