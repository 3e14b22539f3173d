/-
  DERIVED. GIVEN WITH THE SEED: THE CARDS: each row of YtclhpomlfadohaaDoorRows.lean that lists a variable, with what it lists TIED to the program's text (the seventh form; the later family's looks); each row that meets fmt, with fmt's text TOLD by the authors' own Lean function (tested against real Go, not proved from fmt's source: count such statements apart). THE CARD IS WHAT COUNTS. Prove the row's statement (the work); the ties are given (YtclhpomlfadohaaDoorTie.lean); close each card by the builder's one call (the guide's Derived/Test/ToyasCard.lean, 'card_holds'). Laid BY PROGRAM, IN A SANDBOX (cutbox-door.mjs). By AI agents, Wed Nov 11 2026. No macro, syntax, notation, axiom, sorry.
-/
import Derived.Test.YtclhpomlfadohaaDoorRows
import GoSem.ClaimSeven
namespace Go.Proofs.YtclhpomlfadohaaDoor
namespace Rows

/-- THE TIED CARD OF 'privitylaw47.RecoveryCorrect'. -/
def recoveryCorrectCard : Claim7 := { stood := { row := recoveryCorrectRow, standIns := [], harness := (true, "88dc6ba6eaf6f4a5246ba1c8673511f05a8ad9fa8ac89fc3c20275582183e15b"), looks := false }, kinds := [], alts := [], laidByText := true, laidKinds := [.data], laidTests := true, laidLooks := .later }
def RecoveryCorrectCardSaid : Prop := Claim7.holds Tryd.pinned (.plain (OpenSpec.ofChange recoveryCorrectSpec)) recoveryCorrectCard

/-- THE TIED CARD OF 'privitylaw47.RecoveryMessages'. -/
def recoveryMessagesCard : Claim7 := { stood := { row := recoveryMessagesRow, standIns := [], harness := (true, "88dc6ba6eaf6f4a5246ba1c8673511f05a8ad9fa8ac89fc3c20275582183e15b"), looks := false }, kinds := [], alts := [], laidByText := true, laidKinds := [.data], laidTests := true, laidLooks := .later }
def RecoveryMessagesCardSaid : Prop := Claim7.holds Tryd.pinned (.plain (OpenSpec.ofChange recoveryMessagesSpec)) recoveryMessagesCard

/-- THE TIED CARD OF 'privitylaw47.RecoveryPrivacy'. -/
def recoveryPrivacyCard : Claim7 := { stood := { row := recoveryPrivacyRow, standIns := [], harness := (true, "88dc6ba6eaf6f4a5246ba1c8673511f05a8ad9fa8ac89fc3c20275582183e15b"), looks := false }, kinds := [], alts := [], laidByText := true, laidKinds := [.data], laidTests := true, laidLooks := .later }
def RecoveryPrivacyCardSaid : Prop := Claim7.holds Tryd.pinned (.plain (OpenSpec.ofChange recoveryPrivacySpec)) recoveryPrivacyCard

/-- THE TIED CARD OF 'privitylaw47.RecoveryIgnoresOwnRow'. -/
def recoveryIgnoresOwnRowCard : Claim7 := { stood := { row := recoveryIgnoresOwnRowRow, standIns := [], harness := (true, "88dc6ba6eaf6f4a5246ba1c8673511f05a8ad9fa8ac89fc3c20275582183e15b"), looks := false }, kinds := [], alts := [], laidByText := true, laidKinds := [.data], laidTests := true, laidLooks := .later }
def RecoveryIgnoresOwnRowCardSaid : Prop := Claim7.holds Tryd.pinned (.plain (OpenSpec.ofChange recoveryIgnoresOwnRowSpec)) recoveryIgnoresOwnRowCard

/-- THE TIED CARD OF 'privitylaw47.RecoveryLinear'. -/
def recoveryLinearCard : Claim7 := { stood := { row := recoveryLinearRow, standIns := [], harness := (true, "88dc6ba6eaf6f4a5246ba1c8673511f05a8ad9fa8ac89fc3c20275582183e15b"), looks := false }, kinds := [], alts := [], laidByText := true, laidKinds := [.data], laidTests := true, laidLooks := .later }
def RecoveryLinearCardSaid : Prop := Claim7.holds Tryd.pinned (.plain (OpenSpec.ofChange recoveryLinearSpec)) recoveryLinearCard

/-- THE TIED CARD OF 'privitylaw20.ReconstructRobust'. -/
def reconstructRobustCard : Claim7 := { stood := { row := reconstructRobustRow, standIns := [], harness := (true, "88dc6ba6eaf6f4a5246ba1c8673511f05a8ad9fa8ac89fc3c20275582183e15b"), looks := false }, kinds := [], alts := [], laidByText := true, laidKinds := [.data], laidTests := true, laidLooks := .later }
def ReconstructRobustCardSaid : Prop := Claim7.holds Tryd.pinned (.plain (OpenSpec.ofChange reconstructRobustSpec)) reconstructRobustCard

/-- THE TIED CARD OF 'privitylaw20.ReconstructLinear'. -/
def reconstructLinearCard : Claim7 := { stood := { row := reconstructLinearRow, standIns := [], harness := (true, "88dc6ba6eaf6f4a5246ba1c8673511f05a8ad9fa8ac89fc3c20275582183e15b"), looks := false }, kinds := [], alts := [], laidByText := true, laidKinds := [.data], laidTests := true, laidLooks := .later }
def ReconstructLinearCardSaid : Prop := Claim7.holds Tryd.pinned (.plain (OpenSpec.ofChange reconstructLinearSpec)) reconstructLinearCard

/-- THE TIED CARD OF 'privitylaw20.ReconstructRepeatable'. -/
def reconstructRepeatableCard : Claim7 := { stood := { row := reconstructRepeatableRow, standIns := [], harness := (true, "88dc6ba6eaf6f4a5246ba1c8673511f05a8ad9fa8ac89fc3c20275582183e15b"), looks := false }, kinds := [], alts := [], laidByText := true, laidKinds := [.data], laidTests := true, laidLooks := .later }
def ReconstructRepeatableCardSaid : Prop := Claim7.holds Tryd.pinned (.plain (OpenSpec.ofChange reconstructRepeatableSpec)) reconstructRepeatableCard

/-- THE TIED CARD OF 'privitylaw20.ReconstructDetection'. -/
def reconstructDetectionCard : Claim7 := { stood := { row := reconstructDetectionRow, standIns := [], harness := (true, "88dc6ba6eaf6f4a5246ba1c8673511f05a8ad9fa8ac89fc3c20275582183e15b"), looks := false }, kinds := [], alts := [], laidByText := true, laidKinds := [.data], laidTests := true, laidLooks := .later }
def ReconstructDetectionCardSaid : Prop := Claim7.holds Tryd.pinned (.plain (OpenSpec.ofChange reconstructDetectionSpec)) reconstructDetectionCard

/-- THE TIED CARD OF 'privitylaw20.ReconstructRowsRobust'. -/
def reconstructRowsRobustCard : Claim7 := { stood := { row := reconstructRowsRobustRow, standIns := [], harness := (true, "88dc6ba6eaf6f4a5246ba1c8673511f05a8ad9fa8ac89fc3c20275582183e15b"), looks := false }, kinds := [], alts := [], laidByText := true, laidKinds := [.data], laidTests := true, laidLooks := .later }
def ReconstructRowsRobustCardSaid : Prop := Claim7.holds Tryd.pinned (.plain (OpenSpec.ofChange reconstructRowsRobustSpec)) reconstructRowsRobustCard

/-- THE TIED CARD OF 'privitylaw20.ReconstructNothing'. -/
def reconstructNothingCard : Claim7 := { stood := { row := reconstructNothingRow, standIns := [], harness := (true, "88dc6ba6eaf6f4a5246ba1c8673511f05a8ad9fa8ac89fc3c20275582183e15b"), looks := false }, kinds := [], alts := [], laidByText := true, laidKinds := [.data], laidTests := true, laidLooks := .later }
def ReconstructNothingCardSaid : Prop := Claim7.holds Tryd.pinned (.plain (OpenSpec.ofChange reconstructNothingSpec)) reconstructNothingCard

/-- THE TIED CARD OF 'privitylaw25.TriplestoreTakeMatchesReference'. -/
def triplestoreTakeMatchesReferenceCard : Claim7 := { stood := { row := triplestoreTakeMatchesReferenceRow, standIns := [], harness := (true, "88dc6ba6eaf6f4a5246ba1c8673511f05a8ad9fa8ac89fc3c20275582183e15b"), looks := false }, kinds := [], alts := [], laidByText := true, laidKinds := [.data], laidTests := true, laidLooks := .later }
def TriplestoreTakeMatchesReferenceCardSaid : Prop := Claim7.holds Tryd.pinned (.plain (OpenSpec.ofChange triplestoreTakeMatchesReferenceSpec)) triplestoreTakeMatchesReferenceCard

/-- THE TIED CARD OF 'privitylaw25.TriplestoreHandsOutOnce'. -/
def triplestoreHandsOutOnceCard : Claim7 := { stood := { row := triplestoreHandsOutOnceRow, standIns := [], harness := (true, "88dc6ba6eaf6f4a5246ba1c8673511f05a8ad9fa8ac89fc3c20275582183e15b"), looks := false }, kinds := [], alts := [], laidByText := true, laidKinds := [.data], laidTests := true, laidLooks := .later }
def TriplestoreHandsOutOnceCardSaid : Prop := Claim7.holds Tryd.pinned (.plain (OpenSpec.ofChange triplestoreHandsOutOnceSpec)) triplestoreHandsOutOnceCard

/-- THE TIED CARD OF 'privitylaw25.TriplestoreTakeIsAdditive'. -/
def triplestoreTakeIsAdditiveCard : Claim7 := { stood := { row := triplestoreTakeIsAdditiveRow, standIns := [], harness := (true, "88dc6ba6eaf6f4a5246ba1c8673511f05a8ad9fa8ac89fc3c20275582183e15b"), looks := false }, kinds := [], alts := [], laidByText := true, laidKinds := [.data], laidTests := true, laidLooks := .later }
def TriplestoreTakeIsAdditiveCardSaid : Prop := Claim7.holds Tryd.pinned (.plain (OpenSpec.ofChange triplestoreTakeIsAdditiveSpec)) triplestoreTakeIsAdditiveCard

/-- THE TIED CARD OF 'privitylaw25.TriplestoreVerifyAgreement'. -/
def triplestoreVerifyAgreementCard : Claim7 := { stood := { row := triplestoreVerifyAgreementRow, standIns := [], harness := (true, "88dc6ba6eaf6f4a5246ba1c8673511f05a8ad9fa8ac89fc3c20275582183e15b"), looks := false }, kinds := [], alts := [], laidByText := true, laidKinds := [.data], laidTests := true, laidLooks := .later }
def TriplestoreVerifyAgreementCardSaid : Prop := Claim7.holds Tryd.pinned (.plain (OpenSpec.ofChange triplestoreVerifyAgreementSpec)) triplestoreVerifyAgreementCard

/-- THE TIED CARD OF 'privitylaw25.TriplestoreVerifyIsSound'. -/
def triplestoreVerifyIsSoundCard : Claim7 := { stood := { row := triplestoreVerifyIsSoundRow, standIns := [], harness := (true, "88dc6ba6eaf6f4a5246ba1c8673511f05a8ad9fa8ac89fc3c20275582183e15b"), looks := false }, kinds := [], alts := [], laidByText := true, laidKinds := [.data], laidTests := true, laidLooks := .later }
def TriplestoreVerifyIsSoundCardSaid : Prop := Claim7.holds Tryd.pinned (.plain (OpenSpec.ofChange triplestoreVerifyIsSoundSpec)) triplestoreVerifyIsSoundCard

/-- THE TIED CARD OF 'privitylaw25.TriplestoreVerifyScaled'. -/
def triplestoreVerifyScaledCard : Claim7 := { stood := { row := triplestoreVerifyScaledRow, standIns := [], harness := (true, "88dc6ba6eaf6f4a5246ba1c8673511f05a8ad9fa8ac89fc3c20275582183e15b"), looks := false }, kinds := [], alts := [], laidByText := true, laidKinds := [.data], laidTests := true, laidLooks := .later }
def TriplestoreVerifyScaledCardSaid : Prop := Claim7.holds Tryd.pinned (.plain (OpenSpec.ofChange triplestoreVerifyScaledSpec)) triplestoreVerifyScaledCard

/-- THE SECOND FORM's CARD OF 'privitylaw47.RecoveryCorrect'. -/
def recoveryCorrectUptoCard : Claim7 := { stood := { row := recoveryCorrectUptoRow, standIns := [], harness := (true, "88dc6ba6eaf6f4a5246ba1c8673511f05a8ad9fa8ac89fc3c20275582183e15b"), looks := false }, kinds := [], alts := [], laidByText := true, laidKinds := [.data], laidTests := true, laidLooks := .later }
def RecoveryCorrectUptoCardSaid : Prop := Claim7.holds Tryd.pinned (.plain (OpenSpec.upto recoveryCorrectSpec)) recoveryCorrectUptoCard

/-- THE SECOND FORM's CARD OF 'privitylaw47.RecoveryMessages'. -/
def recoveryMessagesUptoCard : Claim7 := { stood := { row := recoveryMessagesUptoRow, standIns := [], harness := (true, "88dc6ba6eaf6f4a5246ba1c8673511f05a8ad9fa8ac89fc3c20275582183e15b"), looks := false }, kinds := [], alts := [], laidByText := true, laidKinds := [.data], laidTests := true, laidLooks := .later }
def RecoveryMessagesUptoCardSaid : Prop := Claim7.holds Tryd.pinned (.plain (OpenSpec.upto recoveryMessagesSpec)) recoveryMessagesUptoCard

/-- THE SECOND FORM's CARD OF 'privitylaw47.RecoveryPrivacy'. -/
def recoveryPrivacyUptoCard : Claim7 := { stood := { row := recoveryPrivacyUptoRow, standIns := [], harness := (true, "88dc6ba6eaf6f4a5246ba1c8673511f05a8ad9fa8ac89fc3c20275582183e15b"), looks := false }, kinds := [], alts := [], laidByText := true, laidKinds := [.data], laidTests := true, laidLooks := .later }
def RecoveryPrivacyUptoCardSaid : Prop := Claim7.holds Tryd.pinned (.plain (OpenSpec.upto recoveryPrivacySpec)) recoveryPrivacyUptoCard

/-- THE SECOND FORM's CARD OF 'privitylaw47.RecoveryIgnoresOwnRow'. -/
def recoveryIgnoresOwnRowUptoCard : Claim7 := { stood := { row := recoveryIgnoresOwnRowUptoRow, standIns := [], harness := (true, "88dc6ba6eaf6f4a5246ba1c8673511f05a8ad9fa8ac89fc3c20275582183e15b"), looks := false }, kinds := [], alts := [], laidByText := true, laidKinds := [.data], laidTests := true, laidLooks := .later }
def RecoveryIgnoresOwnRowUptoCardSaid : Prop := Claim7.holds Tryd.pinned (.plain (OpenSpec.upto recoveryIgnoresOwnRowSpec)) recoveryIgnoresOwnRowUptoCard

/-- THE SECOND FORM's CARD OF 'privitylaw47.RecoveryLinear'. -/
def recoveryLinearUptoCard : Claim7 := { stood := { row := recoveryLinearUptoRow, standIns := [], harness := (true, "88dc6ba6eaf6f4a5246ba1c8673511f05a8ad9fa8ac89fc3c20275582183e15b"), looks := false }, kinds := [], alts := [], laidByText := true, laidKinds := [.data], laidTests := true, laidLooks := .later }
def RecoveryLinearUptoCardSaid : Prop := Claim7.holds Tryd.pinned (.plain (OpenSpec.upto recoveryLinearSpec)) recoveryLinearUptoCard

/-- THE SECOND FORM's CARD OF 'privitylaw20.ReconstructRobust'. -/
def reconstructRobustUptoCard : Claim7 := { stood := { row := reconstructRobustUptoRow, standIns := [], harness := (true, "88dc6ba6eaf6f4a5246ba1c8673511f05a8ad9fa8ac89fc3c20275582183e15b"), looks := false }, kinds := [], alts := [], laidByText := true, laidKinds := [.data], laidTests := true, laidLooks := .later }
def ReconstructRobustUptoCardSaid : Prop := Claim7.holds Tryd.pinned (.plain (OpenSpec.upto reconstructRobustSpec)) reconstructRobustUptoCard

/-- THE SECOND FORM's CARD OF 'privitylaw20.ReconstructLinear'. -/
def reconstructLinearUptoCard : Claim7 := { stood := { row := reconstructLinearUptoRow, standIns := [], harness := (true, "88dc6ba6eaf6f4a5246ba1c8673511f05a8ad9fa8ac89fc3c20275582183e15b"), looks := false }, kinds := [], alts := [], laidByText := true, laidKinds := [.data], laidTests := true, laidLooks := .later }
def ReconstructLinearUptoCardSaid : Prop := Claim7.holds Tryd.pinned (.plain (OpenSpec.upto reconstructLinearSpec)) reconstructLinearUptoCard

/-- THE SECOND FORM's CARD OF 'privitylaw20.ReconstructRepeatable'. -/
def reconstructRepeatableUptoCard : Claim7 := { stood := { row := reconstructRepeatableUptoRow, standIns := [], harness := (true, "88dc6ba6eaf6f4a5246ba1c8673511f05a8ad9fa8ac89fc3c20275582183e15b"), looks := false }, kinds := [], alts := [], laidByText := true, laidKinds := [.data], laidTests := true, laidLooks := .later }
def ReconstructRepeatableUptoCardSaid : Prop := Claim7.holds Tryd.pinned (.plain (OpenSpec.upto reconstructRepeatableSpec)) reconstructRepeatableUptoCard

/-- THE SECOND FORM's CARD OF 'privitylaw20.ReconstructDetection'. -/
def reconstructDetectionUptoCard : Claim7 := { stood := { row := reconstructDetectionUptoRow, standIns := [], harness := (true, "88dc6ba6eaf6f4a5246ba1c8673511f05a8ad9fa8ac89fc3c20275582183e15b"), looks := false }, kinds := [], alts := [], laidByText := true, laidKinds := [.data], laidTests := true, laidLooks := .later }
def ReconstructDetectionUptoCardSaid : Prop := Claim7.holds Tryd.pinned (.plain (OpenSpec.upto reconstructDetectionSpec)) reconstructDetectionUptoCard

/-- THE SECOND FORM's CARD OF 'privitylaw20.ReconstructRowsRobust'. -/
def reconstructRowsRobustUptoCard : Claim7 := { stood := { row := reconstructRowsRobustUptoRow, standIns := [], harness := (true, "88dc6ba6eaf6f4a5246ba1c8673511f05a8ad9fa8ac89fc3c20275582183e15b"), looks := false }, kinds := [], alts := [], laidByText := true, laidKinds := [.data], laidTests := true, laidLooks := .later }
def ReconstructRowsRobustUptoCardSaid : Prop := Claim7.holds Tryd.pinned (.plain (OpenSpec.upto reconstructRowsRobustSpec)) reconstructRowsRobustUptoCard

/-- THE SECOND FORM's CARD OF 'privitylaw20.ReconstructNothing'. -/
def reconstructNothingUptoCard : Claim7 := { stood := { row := reconstructNothingUptoRow, standIns := [], harness := (true, "88dc6ba6eaf6f4a5246ba1c8673511f05a8ad9fa8ac89fc3c20275582183e15b"), looks := false }, kinds := [], alts := [], laidByText := true, laidKinds := [.data], laidTests := true, laidLooks := .later }
def ReconstructNothingUptoCardSaid : Prop := Claim7.holds Tryd.pinned (.plain (OpenSpec.upto reconstructNothingSpec)) reconstructNothingUptoCard

/-- THE SECOND FORM's CARD OF 'privitylaw25.TriplestoreTakeMatchesReference'. -/
def triplestoreTakeMatchesReferenceUptoCard : Claim7 := { stood := { row := triplestoreTakeMatchesReferenceUptoRow, standIns := [], harness := (true, "88dc6ba6eaf6f4a5246ba1c8673511f05a8ad9fa8ac89fc3c20275582183e15b"), looks := false }, kinds := [], alts := [], laidByText := true, laidKinds := [.data], laidTests := true, laidLooks := .later }
def TriplestoreTakeMatchesReferenceUptoCardSaid : Prop := Claim7.holds Tryd.pinned (.plain (OpenSpec.upto triplestoreTakeMatchesReferenceSpec)) triplestoreTakeMatchesReferenceUptoCard

/-- THE SECOND FORM's CARD OF 'privitylaw25.TriplestoreHandsOutOnce'. -/
def triplestoreHandsOutOnceUptoCard : Claim7 := { stood := { row := triplestoreHandsOutOnceUptoRow, standIns := [], harness := (true, "88dc6ba6eaf6f4a5246ba1c8673511f05a8ad9fa8ac89fc3c20275582183e15b"), looks := false }, kinds := [], alts := [], laidByText := true, laidKinds := [.data], laidTests := true, laidLooks := .later }
def TriplestoreHandsOutOnceUptoCardSaid : Prop := Claim7.holds Tryd.pinned (.plain (OpenSpec.upto triplestoreHandsOutOnceSpec)) triplestoreHandsOutOnceUptoCard

/-- THE SECOND FORM's CARD OF 'privitylaw25.TriplestoreTakeIsAdditive'. -/
def triplestoreTakeIsAdditiveUptoCard : Claim7 := { stood := { row := triplestoreTakeIsAdditiveUptoRow, standIns := [], harness := (true, "88dc6ba6eaf6f4a5246ba1c8673511f05a8ad9fa8ac89fc3c20275582183e15b"), looks := false }, kinds := [], alts := [], laidByText := true, laidKinds := [.data], laidTests := true, laidLooks := .later }
def TriplestoreTakeIsAdditiveUptoCardSaid : Prop := Claim7.holds Tryd.pinned (.plain (OpenSpec.upto triplestoreTakeIsAdditiveSpec)) triplestoreTakeIsAdditiveUptoCard

/-- THE SECOND FORM's CARD OF 'privitylaw25.TriplestoreVerifyAgreement'. -/
def triplestoreVerifyAgreementUptoCard : Claim7 := { stood := { row := triplestoreVerifyAgreementUptoRow, standIns := [], harness := (true, "88dc6ba6eaf6f4a5246ba1c8673511f05a8ad9fa8ac89fc3c20275582183e15b"), looks := false }, kinds := [], alts := [], laidByText := true, laidKinds := [.data], laidTests := true, laidLooks := .later }
def TriplestoreVerifyAgreementUptoCardSaid : Prop := Claim7.holds Tryd.pinned (.plain (OpenSpec.upto triplestoreVerifyAgreementSpec)) triplestoreVerifyAgreementUptoCard

/-- THE SECOND FORM's CARD OF 'privitylaw25.TriplestoreVerifyIsSound'. -/
def triplestoreVerifyIsSoundUptoCard : Claim7 := { stood := { row := triplestoreVerifyIsSoundUptoRow, standIns := [], harness := (true, "88dc6ba6eaf6f4a5246ba1c8673511f05a8ad9fa8ac89fc3c20275582183e15b"), looks := false }, kinds := [], alts := [], laidByText := true, laidKinds := [.data], laidTests := true, laidLooks := .later }
def TriplestoreVerifyIsSoundUptoCardSaid : Prop := Claim7.holds Tryd.pinned (.plain (OpenSpec.upto triplestoreVerifyIsSoundSpec)) triplestoreVerifyIsSoundUptoCard

/-- THE SECOND FORM's CARD OF 'privitylaw25.TriplestoreVerifyScaled'. -/
def triplestoreVerifyScaledUptoCard : Claim7 := { stood := { row := triplestoreVerifyScaledUptoRow, standIns := [], harness := (true, "88dc6ba6eaf6f4a5246ba1c8673511f05a8ad9fa8ac89fc3c20275582183e15b"), looks := false }, kinds := [], alts := [], laidByText := true, laidKinds := [.data], laidTests := true, laidLooks := .later }
def TriplestoreVerifyScaledUptoCardSaid : Prop := Claim7.holds Tryd.pinned (.plain (OpenSpec.upto triplestoreVerifyScaledSpec)) triplestoreVerifyScaledUptoCard
end Rows
end Go.Proofs.YtclhpomlfadohaaDoor
