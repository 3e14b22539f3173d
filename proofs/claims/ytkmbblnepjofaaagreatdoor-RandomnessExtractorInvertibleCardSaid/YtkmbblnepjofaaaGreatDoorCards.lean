/-
  DERIVED. GIVEN WITH THE SEED: THE CARDS: each row of YtkmbblnepjofaaaGreatDoorRows.lean that lists a variable, with what it lists TIED to the program's text (the seventh form; the later family's looks); each row that meets fmt, with fmt's text TOLD by the authors' own Lean function (tested against real Go, not proved from fmt's source: count such statements apart). THE CARD IS WHAT COUNTS. Prove the row's statement (the work); the ties are given (YtkmbblnepjofaaaGreatDoorTie.lean); close each card by the builder's one call (the guide's Derived/Test/ToyasCard.lean, 'card_holds'). Laid BY PROGRAM, IN A SANDBOX (cutbox-door.mjs). By AI agents, Wed Nov 11 2026. No macro, syntax, notation, axiom, sorry.
-/
import Derived.Test.YtkmbblnepjofaaaGreatDoorRows
import GoSem.ClaimSeven
namespace Go.Proofs.YtkmbblnepjofaaaGreatDoor
namespace Rows

/-- THE TIED CARD OF 'privitylaw24.RandomnessConsistent'. -/
def randomnessConsistentCard : Claim7 := { stood := { row := randomnessConsistentRow, standIns := [], harness := (true, "00ae26d82973f8a5081b5b0fd7e1a56d18a2d4d51fce708aed4c10fa7199e597"), looks := false }, kinds := [], alts := [], laidByText := true, laidKinds := [.data], laidTests := true, laidLooks := .later }
def RandomnessConsistentCardSaid : Prop := Claim7.holds Tryz.pinned (.plain (OpenSpec.ofChange randomnessConsistentSpec)) randomnessConsistentCard

/-- THE TIED CARD OF 'privitylaw24.RandomnessAllValuesReachable'. -/
def randomnessAllValuesReachableCard : Claim7 := { stood := { row := randomnessAllValuesReachableRow, standIns := [], harness := (true, "00ae26d82973f8a5081b5b0fd7e1a56d18a2d4d51fce708aed4c10fa7199e597"), looks := false }, kinds := [], alts := [], laidByText := true, laidKinds := [.data], laidTests := true, laidLooks := .later }
def RandomnessAllValuesReachableCardSaid : Prop := Claim7.holds Tryz.pinned (.plain (OpenSpec.ofChange randomnessAllValuesReachableSpec)) randomnessAllValuesReachableCard

/-- THE TIED CARD OF 'privitylaw24.RandomnessSharings'. -/
def randomnessSharingsCard : Claim7 := { stood := { row := randomnessSharingsRow, standIns := [], harness := (true, "00ae26d82973f8a5081b5b0fd7e1a56d18a2d4d51fce708aed4c10fa7199e597"), looks := false }, kinds := [], alts := [], laidByText := true, laidKinds := [.data], laidTests := true, laidLooks := .later }
def RandomnessSharingsCardSaid : Prop := Claim7.holds Tryz.pinned (.plain (OpenSpec.ofChange randomnessSharingsSpec)) randomnessSharingsCard

/-- THE TIED CARD OF 'privitylaw24.RandomnessSecrecy'. -/
def randomnessSecrecyCard : Claim7 := { stood := { row := randomnessSecrecyRow, standIns := [], harness := (true, "00ae26d82973f8a5081b5b0fd7e1a56d18a2d4d51fce708aed4c10fa7199e597"), looks := false }, kinds := [], alts := [], laidByText := true, laidKinds := [.data], laidTests := true, laidLooks := .later }
def RandomnessSecrecyCardSaid : Prop := Claim7.holds Tryz.pinned (.plain (OpenSpec.ofChange randomnessSecrecySpec)) randomnessSecrecyCard

/-- THE TIED CARD OF 'privitylaw24.RandomnessBits'. -/
def randomnessBitsCard : Claim7 := { stood := { row := randomnessBitsRow, standIns := [], harness := (true, "00ae26d82973f8a5081b5b0fd7e1a56d18a2d4d51fce708aed4c10fa7199e597"), looks := false }, kinds := [], alts := [], laidByText := true, laidKinds := [.data], laidTests := true, laidLooks := .later }
def RandomnessBitsCardSaid : Prop := Claim7.holds Tryz.pinned (.plain (OpenSpec.ofChange randomnessBitsSpec)) randomnessBitsCard

/-- THE TIED CARD OF 'privitylaw24.RandomnessBitSecrecy'. -/
def randomnessBitSecrecyCard : Claim7 := { stood := { row := randomnessBitSecrecyRow, standIns := [], harness := (true, "00ae26d82973f8a5081b5b0fd7e1a56d18a2d4d51fce708aed4c10fa7199e597"), looks := false }, kinds := [], alts := [], laidByText := true, laidKinds := [.data], laidTests := true, laidLooks := .later }
def RandomnessBitSecrecyCardSaid : Prop := Claim7.holds Tryz.pinned (.plain (OpenSpec.ofChange randomnessBitSecrecySpec)) randomnessBitSecrecyCard

/-- THE TIED CARD OF 'privitylaw24.RandomnessExtractorInvertible'. -/
def randomnessExtractorInvertibleCard : Claim7 := { stood := { row := randomnessExtractorInvertibleRow, standIns := [], harness := (true, "00ae26d82973f8a5081b5b0fd7e1a56d18a2d4d51fce708aed4c10fa7199e597"), looks := false }, kinds := [], alts := [], laidByText := true, laidKinds := [.data], laidTests := true, laidLooks := .later }
def RandomnessExtractorInvertibleCardSaid : Prop := Claim7.holds Tryz.pinned (.plain (OpenSpec.ofChange randomnessExtractorInvertibleSpec)) randomnessExtractorInvertibleCard

/-- THE SECOND FORM's CARD OF 'privitylaw24.RandomnessConsistent'. -/
def randomnessConsistentUptoCard : Claim7 := { stood := { row := randomnessConsistentUptoRow, standIns := [], harness := (true, "00ae26d82973f8a5081b5b0fd7e1a56d18a2d4d51fce708aed4c10fa7199e597"), looks := false }, kinds := [], alts := [], laidByText := true, laidKinds := [.data], laidTests := true, laidLooks := .later }
def RandomnessConsistentUptoCardSaid : Prop := Claim7.holds Tryz.pinned (.plain (OpenSpec.upto randomnessConsistentSpec)) randomnessConsistentUptoCard

/-- THE SECOND FORM's CARD OF 'privitylaw24.RandomnessAllValuesReachable'. -/
def randomnessAllValuesReachableUptoCard : Claim7 := { stood := { row := randomnessAllValuesReachableUptoRow, standIns := [], harness := (true, "00ae26d82973f8a5081b5b0fd7e1a56d18a2d4d51fce708aed4c10fa7199e597"), looks := false }, kinds := [], alts := [], laidByText := true, laidKinds := [.data], laidTests := true, laidLooks := .later }
def RandomnessAllValuesReachableUptoCardSaid : Prop := Claim7.holds Tryz.pinned (.plain (OpenSpec.upto randomnessAllValuesReachableSpec)) randomnessAllValuesReachableUptoCard

/-- THE SECOND FORM's CARD OF 'privitylaw24.RandomnessSharings'. -/
def randomnessSharingsUptoCard : Claim7 := { stood := { row := randomnessSharingsUptoRow, standIns := [], harness := (true, "00ae26d82973f8a5081b5b0fd7e1a56d18a2d4d51fce708aed4c10fa7199e597"), looks := false }, kinds := [], alts := [], laidByText := true, laidKinds := [.data], laidTests := true, laidLooks := .later }
def RandomnessSharingsUptoCardSaid : Prop := Claim7.holds Tryz.pinned (.plain (OpenSpec.upto randomnessSharingsSpec)) randomnessSharingsUptoCard

/-- THE SECOND FORM's CARD OF 'privitylaw24.RandomnessSecrecy'. -/
def randomnessSecrecyUptoCard : Claim7 := { stood := { row := randomnessSecrecyUptoRow, standIns := [], harness := (true, "00ae26d82973f8a5081b5b0fd7e1a56d18a2d4d51fce708aed4c10fa7199e597"), looks := false }, kinds := [], alts := [], laidByText := true, laidKinds := [.data], laidTests := true, laidLooks := .later }
def RandomnessSecrecyUptoCardSaid : Prop := Claim7.holds Tryz.pinned (.plain (OpenSpec.upto randomnessSecrecySpec)) randomnessSecrecyUptoCard

/-- THE SECOND FORM's CARD OF 'privitylaw24.RandomnessBits'. -/
def randomnessBitsUptoCard : Claim7 := { stood := { row := randomnessBitsUptoRow, standIns := [], harness := (true, "00ae26d82973f8a5081b5b0fd7e1a56d18a2d4d51fce708aed4c10fa7199e597"), looks := false }, kinds := [], alts := [], laidByText := true, laidKinds := [.data], laidTests := true, laidLooks := .later }
def RandomnessBitsUptoCardSaid : Prop := Claim7.holds Tryz.pinned (.plain (OpenSpec.upto randomnessBitsSpec)) randomnessBitsUptoCard

/-- THE SECOND FORM's CARD OF 'privitylaw24.RandomnessBitSecrecy'. -/
def randomnessBitSecrecyUptoCard : Claim7 := { stood := { row := randomnessBitSecrecyUptoRow, standIns := [], harness := (true, "00ae26d82973f8a5081b5b0fd7e1a56d18a2d4d51fce708aed4c10fa7199e597"), looks := false }, kinds := [], alts := [], laidByText := true, laidKinds := [.data], laidTests := true, laidLooks := .later }
def RandomnessBitSecrecyUptoCardSaid : Prop := Claim7.holds Tryz.pinned (.plain (OpenSpec.upto randomnessBitSecrecySpec)) randomnessBitSecrecyUptoCard

/-- THE SECOND FORM's CARD OF 'privitylaw24.RandomnessExtractorInvertible'. -/
def randomnessExtractorInvertibleUptoCard : Claim7 := { stood := { row := randomnessExtractorInvertibleUptoRow, standIns := [], harness := (true, "00ae26d82973f8a5081b5b0fd7e1a56d18a2d4d51fce708aed4c10fa7199e597"), looks := false }, kinds := [], alts := [], laidByText := true, laidKinds := [.data], laidTests := true, laidLooks := .later }
def RandomnessExtractorInvertibleUptoCardSaid : Prop := Claim7.holds Tryz.pinned (.plain (OpenSpec.upto randomnessExtractorInvertibleSpec)) randomnessExtractorInvertibleUptoCard
end Rows
end Go.Proofs.YtkmbblnepjofaaaGreatDoor
