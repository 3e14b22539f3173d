/-
  DERIVED. GIVEN WITH THE SEED: THE CARDS: each row of YthdaobopefbpeaaGreatDoorRows.lean that lists a variable, with what it lists TIED to the program's text (the seventh form; the later family's looks); each row that meets fmt, with fmt's text TOLD by the authors' own Lean function (tested against real Go, not proved from fmt's source: count such statements apart). THE CARD IS WHAT COUNTS. Prove the row's statement (the work); the ties are given (YthdaobopefbpeaaGreatDoorTie.lean); close each card by the builder's one call (the guide's Derived/Test/ToyasCard.lean, 'card_holds'). Laid BY PROGRAM, IN A SANDBOX (cutbox-door.mjs). By AI agents, Wed Nov 11 2026. No macro, syntax, notation, axiom, sorry.
-/
import Derived.Test.YthdaobopefbpeaaGreatDoorRows
import GoSem.ClaimSeven
namespace Go.Proofs.YthdaobopefbpeaaGreatDoor
namespace Rows

/-- THE TIED CARD OF 'privitylaw46.RefreshZeroSharings'. -/
def refreshZeroSharingsCard : Claim7 := { stood := { row := refreshZeroSharingsRow, standIns := [], harness := (true, "c50bb092a4548bf55711e292c2d5b4d32e6f1ba79cbcab8b9b3c69cfcd11c3b3"), looks := false }, kinds := [], alts := [], laidByText := true, laidKinds := [.data], laidTests := true, laidLooks := .later }
def RefreshZeroSharingsCardSaid : Prop := Claim7.holds Tryz.pinned (.plain (OpenSpec.ofChange refreshZeroSharingsSpec)) refreshZeroSharingsCard

/-- THE TIED CARD OF 'privitylaw46.RefreshZeroSecret'. -/
def refreshZeroSecretCard : Claim7 := { stood := { row := refreshZeroSecretRow, standIns := [], harness := (true, "c50bb092a4548bf55711e292c2d5b4d32e6f1ba79cbcab8b9b3c69cfcd11c3b3"), looks := false }, kinds := [], alts := [], laidByText := true, laidKinds := [.data], laidTests := true, laidLooks := .later }
def RefreshZeroSecretCardSaid : Prop := Claim7.holds Tryz.pinned (.plain (OpenSpec.ofChange refreshZeroSecretSpec)) refreshZeroSecretCard

/-- THE TIED CARD OF 'privitylaw46.RefreshPreservesSecrets'. -/
def refreshPreservesSecretsCard : Claim7 := { stood := { row := refreshPreservesSecretsRow, standIns := [], harness := (true, "c50bb092a4548bf55711e292c2d5b4d32e6f1ba79cbcab8b9b3c69cfcd11c3b3"), looks := false }, kinds := [], alts := [], laidByText := true, laidKinds := [.data], laidTests := true, laidLooks := .later }
def RefreshPreservesSecretsCardSaid : Prop := Claim7.holds Tryz.pinned (.plain (OpenSpec.ofChange refreshPreservesSecretsSpec)) refreshPreservesSecretsCard

/-- THE TIED CARD OF 'privitylaw46.RefreshRepeated'. -/
def refreshRepeatedCard : Claim7 := { stood := { row := refreshRepeatedRow, standIns := [], harness := (true, "c50bb092a4548bf55711e292c2d5b4d32e6f1ba79cbcab8b9b3c69cfcd11c3b3"), looks := false }, kinds := [], alts := [], laidByText := true, laidKinds := [.data], laidTests := true, laidLooks := .later }
def RefreshRepeatedCardSaid : Prop := Claim7.holds Tryz.pinned (.plain (OpenSpec.ofChange refreshRepeatedSpec)) refreshRepeatedCard

/-- THE TIED CARD OF 'privitylaw46.RefreshMobileAdversary'. -/
def refreshMobileAdversaryCard : Claim7 := { stood := { row := refreshMobileAdversaryRow, standIns := [], harness := (true, "c50bb092a4548bf55711e292c2d5b4d32e6f1ba79cbcab8b9b3c69cfcd11c3b3"), looks := false }, kinds := [], alts := [], laidByText := true, laidKinds := [.data], laidTests := true, laidLooks := .later }
def RefreshMobileAdversaryCardSaid : Prop := Claim7.holds Tryz.pinned (.plain (OpenSpec.ofChange refreshMobileAdversarySpec)) refreshMobileAdversaryCard

/-- THE SECOND FORM's CARD OF 'privitylaw46.RefreshZeroSharings'. -/
def refreshZeroSharingsUptoCard : Claim7 := { stood := { row := refreshZeroSharingsUptoRow, standIns := [], harness := (true, "c50bb092a4548bf55711e292c2d5b4d32e6f1ba79cbcab8b9b3c69cfcd11c3b3"), looks := false }, kinds := [], alts := [], laidByText := true, laidKinds := [.data], laidTests := true, laidLooks := .later }
def RefreshZeroSharingsUptoCardSaid : Prop := Claim7.holds Tryz.pinned (.plain (OpenSpec.upto refreshZeroSharingsSpec)) refreshZeroSharingsUptoCard

/-- THE SECOND FORM's CARD OF 'privitylaw46.RefreshZeroSecret'. -/
def refreshZeroSecretUptoCard : Claim7 := { stood := { row := refreshZeroSecretUptoRow, standIns := [], harness := (true, "c50bb092a4548bf55711e292c2d5b4d32e6f1ba79cbcab8b9b3c69cfcd11c3b3"), looks := false }, kinds := [], alts := [], laidByText := true, laidKinds := [.data], laidTests := true, laidLooks := .later }
def RefreshZeroSecretUptoCardSaid : Prop := Claim7.holds Tryz.pinned (.plain (OpenSpec.upto refreshZeroSecretSpec)) refreshZeroSecretUptoCard

/-- THE SECOND FORM's CARD OF 'privitylaw46.RefreshPreservesSecrets'. -/
def refreshPreservesSecretsUptoCard : Claim7 := { stood := { row := refreshPreservesSecretsUptoRow, standIns := [], harness := (true, "c50bb092a4548bf55711e292c2d5b4d32e6f1ba79cbcab8b9b3c69cfcd11c3b3"), looks := false }, kinds := [], alts := [], laidByText := true, laidKinds := [.data], laidTests := true, laidLooks := .later }
def RefreshPreservesSecretsUptoCardSaid : Prop := Claim7.holds Tryz.pinned (.plain (OpenSpec.upto refreshPreservesSecretsSpec)) refreshPreservesSecretsUptoCard

/-- THE SECOND FORM's CARD OF 'privitylaw46.RefreshRepeated'. -/
def refreshRepeatedUptoCard : Claim7 := { stood := { row := refreshRepeatedUptoRow, standIns := [], harness := (true, "c50bb092a4548bf55711e292c2d5b4d32e6f1ba79cbcab8b9b3c69cfcd11c3b3"), looks := false }, kinds := [], alts := [], laidByText := true, laidKinds := [.data], laidTests := true, laidLooks := .later }
def RefreshRepeatedUptoCardSaid : Prop := Claim7.holds Tryz.pinned (.plain (OpenSpec.upto refreshRepeatedSpec)) refreshRepeatedUptoCard

/-- THE SECOND FORM's CARD OF 'privitylaw46.RefreshMobileAdversary'. -/
def refreshMobileAdversaryUptoCard : Claim7 := { stood := { row := refreshMobileAdversaryUptoRow, standIns := [], harness := (true, "c50bb092a4548bf55711e292c2d5b4d32e6f1ba79cbcab8b9b3c69cfcd11c3b3"), looks := false }, kinds := [], alts := [], laidByText := true, laidKinds := [.data], laidTests := true, laidLooks := .later }
def RefreshMobileAdversaryUptoCardSaid : Prop := Claim7.holds Tryz.pinned (.plain (OpenSpec.upto refreshMobileAdversarySpec)) refreshMobileAdversaryUptoCard
end Rows
end Go.Proofs.YthdaobopefbpeaaGreatDoor
