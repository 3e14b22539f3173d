/-
  DERIVED. GIVEN WITH THE SEED: THE CARDS: each row of YtpjenmchinpgaaaGreatDoorRows.lean that lists a variable, with what it lists TIED to the program's text (the seventh form; the later family's looks); each row that meets fmt, with fmt's text TOLD by the authors' own Lean function (tested against real Go, not proved from fmt's source: count such statements apart). THE CARD IS WHAT COUNTS. Prove the row's statement (the work); the ties are given (YtpjenmchinpgaaaGreatDoorTie.lean); close each card by the builder's one call (the guide's Derived/Test/ToyasCard.lean, 'card_holds'). Laid BY PROGRAM, IN A SANDBOX (cutbox-door.mjs). By AI agents, Wed Nov 11 2026. No macro, syntax, notation, axiom, sorry.
-/
import Derived.Test.YtpjenmchinpgaaaGreatDoorRows
import GoSem.ClaimSeven
namespace Go.Proofs.YtpjenmchinpgaaaGreatDoor
namespace Rows

/-- THE TIED CARD OF 'privitylaw22.TripleProductsAreCorrect'. -/
def tripleProductsAreCorrectCard : Claim7 := { stood := { row := tripleProductsAreCorrectRow, standIns := [], harness := (true, "e2ad1b46d66589fd1320099ce90bc2556f02fc8d380b0d61ab7b9004b1e81e27"), looks := false }, kinds := [], alts := [], laidByText := true, laidKinds := [.data], laidTests := true, laidLooks := .later }
def TripleProductsAreCorrectCardSaid : Prop := Claim7.holds Tryz.pinned (.plain (OpenSpec.ofChange tripleProductsAreCorrectSpec)) tripleProductsAreCorrectCard

/-- THE TIED CARD OF 'privitylaw22.TripleHonestDealerNeverDisqualified'. -/
def tripleHonestDealerNeverDisqualifiedCard : Claim7 := { stood := { row := tripleHonestDealerNeverDisqualifiedRow, standIns := [], harness := (true, "e2ad1b46d66589fd1320099ce90bc2556f02fc8d380b0d61ab7b9004b1e81e27"), looks := false }, kinds := [], alts := [], laidByText := true, laidKinds := [.data], laidTests := true, laidLooks := .later }
def TripleHonestDealerNeverDisqualifiedCardSaid : Prop := Claim7.holds Tryz.pinned (.plain (OpenSpec.ofChange tripleHonestDealerNeverDisqualifiedSpec)) tripleHonestDealerNeverDisqualifiedCard

/-- THE TIED CARD OF 'privitylaw22.TripleEnoughDealersRemain'. -/
def tripleEnoughDealersRemainCard : Claim7 := { stood := { row := tripleEnoughDealersRemainRow, standIns := [], harness := (true, "e2ad1b46d66589fd1320099ce90bc2556f02fc8d380b0d61ab7b9004b1e81e27"), looks := false }, kinds := [], alts := [], laidByText := true, laidKinds := [.data], laidTests := true, laidLooks := .later }
def TripleEnoughDealersRemainCardSaid : Prop := Claim7.holds Tryz.pinned (.plain (OpenSpec.ofChange tripleEnoughDealersRemainSpec)) tripleEnoughDealersRemainCard

/-- THE TIED CARD OF 'privitylaw22.TripleTapeConsumption'. -/
def tripleTapeConsumptionCard : Claim7 := { stood := { row := tripleTapeConsumptionRow, standIns := [], harness := (true, "e2ad1b46d66589fd1320099ce90bc2556f02fc8d380b0d61ab7b9004b1e81e27"), looks := false }, kinds := [], alts := [], laidByText := true, laidKinds := [.data], laidTests := true, laidLooks := .later }
def TripleTapeConsumptionCardSaid : Prop := Claim7.holds Tryz.pinned (.plain (OpenSpec.ofChange tripleTapeConsumptionSpec)) tripleTapeConsumptionCard

/-- THE TIED CARD OF 'privitylaw22.TripleRoundCount'. -/
def tripleRoundCountCard : Claim7 := { stood := { row := tripleRoundCountRow, standIns := [], harness := (true, "e2ad1b46d66589fd1320099ce90bc2556f02fc8d380b0d61ab7b9004b1e81e27"), looks := false }, kinds := [], alts := [], laidByText := true, laidKinds := [.data], laidTests := true, laidLooks := .later }
def TripleRoundCountCardSaid : Prop := Claim7.holds Tryz.pinned (.plain (OpenSpec.ofChange tripleRoundCountSpec)) tripleRoundCountCard

/-- THE TIED CARD OF 'privitylaw22.TripleFalseComplaints'. -/
def tripleFalseComplaintsCard : Claim7 := { stood := { row := tripleFalseComplaintsRow, standIns := [], harness := (true, "e2ad1b46d66589fd1320099ce90bc2556f02fc8d380b0d61ab7b9004b1e81e27"), looks := false }, kinds := [], alts := [], laidByText := true, laidKinds := [.data], laidTests := true, laidLooks := .later }
def TripleFalseComplaintsCardSaid : Prop := Claim7.holds Tryz.pinned (.plain (OpenSpec.ofChange tripleFalseComplaintsSpec)) tripleFalseComplaintsCard

/-- THE TIED CARD OF 'privitylaw22.TripleHonestTriplesUnchanged'. -/
def tripleHonestTriplesUnchangedCard : Claim7 := { stood := { row := tripleHonestTriplesUnchangedRow, standIns := [], harness := (true, "e2ad1b46d66589fd1320099ce90bc2556f02fc8d380b0d61ab7b9004b1e81e27"), looks := false }, kinds := [], alts := [], laidByText := true, laidKinds := [.data], laidTests := true, laidLooks := .later }
def TripleHonestTriplesUnchangedCardSaid : Prop := Claim7.holds Tryz.pinned (.plain (OpenSpec.ofChange tripleHonestTriplesUnchangedSpec)) tripleHonestTriplesUnchangedCard

/-- THE TIED CARD OF 'privitylaw22.TripleMatchesReference'. -/
def tripleMatchesReferenceCard : Claim7 := { stood := { row := tripleMatchesReferenceRow, standIns := [], harness := (true, "e2ad1b46d66589fd1320099ce90bc2556f02fc8d380b0d61ab7b9004b1e81e27"), looks := false }, kinds := [], alts := [], laidByText := true, laidKinds := [.data], laidTests := true, laidLooks := .later }
def TripleMatchesReferenceCardSaid : Prop := Claim7.holds Tryz.pinned (.plain (OpenSpec.ofChange tripleMatchesReferenceSpec)) tripleMatchesReferenceCard

/-- THE SECOND FORM's CARD OF 'privitylaw22.TripleProductsAreCorrect'. -/
def tripleProductsAreCorrectUptoCard : Claim7 := { stood := { row := tripleProductsAreCorrectUptoRow, standIns := [], harness := (true, "e2ad1b46d66589fd1320099ce90bc2556f02fc8d380b0d61ab7b9004b1e81e27"), looks := false }, kinds := [], alts := [], laidByText := true, laidKinds := [.data], laidTests := true, laidLooks := .later }
def TripleProductsAreCorrectUptoCardSaid : Prop := Claim7.holds Tryz.pinned (.plain (OpenSpec.upto tripleProductsAreCorrectSpec)) tripleProductsAreCorrectUptoCard

/-- THE SECOND FORM's CARD OF 'privitylaw22.TripleHonestDealerNeverDisqualified'. -/
def tripleHonestDealerNeverDisqualifiedUptoCard : Claim7 := { stood := { row := tripleHonestDealerNeverDisqualifiedUptoRow, standIns := [], harness := (true, "e2ad1b46d66589fd1320099ce90bc2556f02fc8d380b0d61ab7b9004b1e81e27"), looks := false }, kinds := [], alts := [], laidByText := true, laidKinds := [.data], laidTests := true, laidLooks := .later }
def TripleHonestDealerNeverDisqualifiedUptoCardSaid : Prop := Claim7.holds Tryz.pinned (.plain (OpenSpec.upto tripleHonestDealerNeverDisqualifiedSpec)) tripleHonestDealerNeverDisqualifiedUptoCard

/-- THE SECOND FORM's CARD OF 'privitylaw22.TripleEnoughDealersRemain'. -/
def tripleEnoughDealersRemainUptoCard : Claim7 := { stood := { row := tripleEnoughDealersRemainUptoRow, standIns := [], harness := (true, "e2ad1b46d66589fd1320099ce90bc2556f02fc8d380b0d61ab7b9004b1e81e27"), looks := false }, kinds := [], alts := [], laidByText := true, laidKinds := [.data], laidTests := true, laidLooks := .later }
def TripleEnoughDealersRemainUptoCardSaid : Prop := Claim7.holds Tryz.pinned (.plain (OpenSpec.upto tripleEnoughDealersRemainSpec)) tripleEnoughDealersRemainUptoCard

/-- THE SECOND FORM's CARD OF 'privitylaw22.TripleTapeConsumption'. -/
def tripleTapeConsumptionUptoCard : Claim7 := { stood := { row := tripleTapeConsumptionUptoRow, standIns := [], harness := (true, "e2ad1b46d66589fd1320099ce90bc2556f02fc8d380b0d61ab7b9004b1e81e27"), looks := false }, kinds := [], alts := [], laidByText := true, laidKinds := [.data], laidTests := true, laidLooks := .later }
def TripleTapeConsumptionUptoCardSaid : Prop := Claim7.holds Tryz.pinned (.plain (OpenSpec.upto tripleTapeConsumptionSpec)) tripleTapeConsumptionUptoCard

/-- THE SECOND FORM's CARD OF 'privitylaw22.TripleRoundCount'. -/
def tripleRoundCountUptoCard : Claim7 := { stood := { row := tripleRoundCountUptoRow, standIns := [], harness := (true, "e2ad1b46d66589fd1320099ce90bc2556f02fc8d380b0d61ab7b9004b1e81e27"), looks := false }, kinds := [], alts := [], laidByText := true, laidKinds := [.data], laidTests := true, laidLooks := .later }
def TripleRoundCountUptoCardSaid : Prop := Claim7.holds Tryz.pinned (.plain (OpenSpec.upto tripleRoundCountSpec)) tripleRoundCountUptoCard

/-- THE SECOND FORM's CARD OF 'privitylaw22.TripleFalseComplaints'. -/
def tripleFalseComplaintsUptoCard : Claim7 := { stood := { row := tripleFalseComplaintsUptoRow, standIns := [], harness := (true, "e2ad1b46d66589fd1320099ce90bc2556f02fc8d380b0d61ab7b9004b1e81e27"), looks := false }, kinds := [], alts := [], laidByText := true, laidKinds := [.data], laidTests := true, laidLooks := .later }
def TripleFalseComplaintsUptoCardSaid : Prop := Claim7.holds Tryz.pinned (.plain (OpenSpec.upto tripleFalseComplaintsSpec)) tripleFalseComplaintsUptoCard

/-- THE SECOND FORM's CARD OF 'privitylaw22.TripleHonestTriplesUnchanged'. -/
def tripleHonestTriplesUnchangedUptoCard : Claim7 := { stood := { row := tripleHonestTriplesUnchangedUptoRow, standIns := [], harness := (true, "e2ad1b46d66589fd1320099ce90bc2556f02fc8d380b0d61ab7b9004b1e81e27"), looks := false }, kinds := [], alts := [], laidByText := true, laidKinds := [.data], laidTests := true, laidLooks := .later }
def TripleHonestTriplesUnchangedUptoCardSaid : Prop := Claim7.holds Tryz.pinned (.plain (OpenSpec.upto tripleHonestTriplesUnchangedSpec)) tripleHonestTriplesUnchangedUptoCard

/-- THE SECOND FORM's CARD OF 'privitylaw22.TripleMatchesReference'. -/
def tripleMatchesReferenceUptoCard : Claim7 := { stood := { row := tripleMatchesReferenceUptoRow, standIns := [], harness := (true, "e2ad1b46d66589fd1320099ce90bc2556f02fc8d380b0d61ab7b9004b1e81e27"), looks := false }, kinds := [], alts := [], laidByText := true, laidKinds := [.data], laidTests := true, laidLooks := .later }
def TripleMatchesReferenceUptoCardSaid : Prop := Claim7.holds Tryz.pinned (.plain (OpenSpec.upto tripleMatchesReferenceSpec)) tripleMatchesReferenceUptoCard
end Rows
end Go.Proofs.YtpjenmchinpgaaaGreatDoor
