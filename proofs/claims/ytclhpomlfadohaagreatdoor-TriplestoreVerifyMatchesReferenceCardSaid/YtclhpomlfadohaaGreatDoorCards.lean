/-
  DERIVED. GIVEN WITH THE SEED: THE CARDS: each row of YtclhpomlfadohaaGreatDoorRows.lean that lists a variable, with what it lists TIED to the program's text (the seventh form; the later family's looks); each row that meets fmt, with fmt's text TOLD by the authors' own Lean function (tested against real Go, not proved from fmt's source: count such statements apart). THE CARD IS WHAT COUNTS. Prove the row's statement (the work); the ties are given (YtclhpomlfadohaaGreatDoorTie.lean); close each card by the builder's one call (the guide's Derived/Test/ToyasCard.lean, 'card_holds'). Laid BY PROGRAM, IN A SANDBOX (cutbox-door.mjs). By AI agents, Wed Nov 11 2026. No macro, syntax, notation, axiom, sorry.
-/
import Derived.Test.YtclhpomlfadohaaGreatDoorRows
import GoSem.ClaimSeven
namespace Go.Proofs.YtclhpomlfadohaaGreatDoor
namespace Rows

/-- THE TIED CARD OF 'privitylaw47.RecoveryRows'. -/
def recoveryRowsCard : Claim7 := { stood := { row := recoveryRowsRow, standIns := [], harness := (true, "edc15a23c53a7fc9f45317f3427c69c6a3f241f658ee64b98341a694d144b755"), looks := false }, kinds := [], alts := [], laidByText := true, laidKinds := [.data], laidTests := true, laidLooks := .later }
def RecoveryRowsCardSaid : Prop := Claim7.holds Tryz.pinned (.plain (OpenSpec.ofChange recoveryRowsSpec)) recoveryRowsCard

/-- THE TIED CARD OF 'privitylaw20.ReconstructRows'. -/
def reconstructRowsCard : Claim7 := { stood := { row := reconstructRowsRow, standIns := [], harness := (true, "edc15a23c53a7fc9f45317f3427c69c6a3f241f658ee64b98341a694d144b755"), looks := false }, kinds := [], alts := [], laidByText := true, laidKinds := [.data], laidTests := true, laidLooks := .later }
def ReconstructRowsCardSaid : Prop := Claim7.holds Tryz.pinned (.plain (OpenSpec.ofChange reconstructRowsSpec)) reconstructRowsCard

/-- THE TIED CARD OF 'privitylaw25.TriplestoreVerifyMatchesReference'. -/
def triplestoreVerifyMatchesReferenceCard : Claim7 := { stood := { row := triplestoreVerifyMatchesReferenceRow, standIns := [], harness := (true, "edc15a23c53a7fc9f45317f3427c69c6a3f241f658ee64b98341a694d144b755"), looks := false }, kinds := [], alts := [], laidByText := true, laidKinds := [.data], laidTests := true, laidLooks := .later }
def TriplestoreVerifyMatchesReferenceCardSaid : Prop := Claim7.holds Tryz.pinned (.plain (OpenSpec.ofChange triplestoreVerifyMatchesReferenceSpec)) triplestoreVerifyMatchesReferenceCard

/-- THE SECOND FORM's CARD OF 'privitylaw47.RecoveryRows'. -/
def recoveryRowsUptoCard : Claim7 := { stood := { row := recoveryRowsUptoRow, standIns := [], harness := (true, "edc15a23c53a7fc9f45317f3427c69c6a3f241f658ee64b98341a694d144b755"), looks := false }, kinds := [], alts := [], laidByText := true, laidKinds := [.data], laidTests := true, laidLooks := .later }
def RecoveryRowsUptoCardSaid : Prop := Claim7.holds Tryz.pinned (.plain (OpenSpec.upto recoveryRowsSpec)) recoveryRowsUptoCard

/-- THE SECOND FORM's CARD OF 'privitylaw20.ReconstructRows'. -/
def reconstructRowsUptoCard : Claim7 := { stood := { row := reconstructRowsUptoRow, standIns := [], harness := (true, "edc15a23c53a7fc9f45317f3427c69c6a3f241f658ee64b98341a694d144b755"), looks := false }, kinds := [], alts := [], laidByText := true, laidKinds := [.data], laidTests := true, laidLooks := .later }
def ReconstructRowsUptoCardSaid : Prop := Claim7.holds Tryz.pinned (.plain (OpenSpec.upto reconstructRowsSpec)) reconstructRowsUptoCard

/-- THE SECOND FORM's CARD OF 'privitylaw25.TriplestoreVerifyMatchesReference'. -/
def triplestoreVerifyMatchesReferenceUptoCard : Claim7 := { stood := { row := triplestoreVerifyMatchesReferenceUptoRow, standIns := [], harness := (true, "edc15a23c53a7fc9f45317f3427c69c6a3f241f658ee64b98341a694d144b755"), looks := false }, kinds := [], alts := [], laidByText := true, laidKinds := [.data], laidTests := true, laidLooks := .later }
def TriplestoreVerifyMatchesReferenceUptoCardSaid : Prop := Claim7.holds Tryz.pinned (.plain (OpenSpec.upto triplestoreVerifyMatchesReferenceSpec)) triplestoreVerifyMatchesReferenceUptoCard
end Rows
end Go.Proofs.YtclhpomlfadohaaGreatDoor
