/-
  DERIVED. GIVEN WITH THE SEED: THE CARDS: each row of YtahofpgjianhdaaGreatDoorRows.lean that lists a variable, with what it lists TIED to the program's text (the seventh form; the later family's looks); each row that meets fmt, with fmt's text TOLD by the authors' own Lean function (tested against real Go, not proved from fmt's source: count such statements apart). THE CARD IS WHAT COUNTS. Prove the row's statement (the work); the ties are given (YtahofpgjianhdaaGreatDoorTie.lean); close each card by the builder's one call (the guide's Derived/Test/ToyasCard.lean, 'card_holds'). Laid BY PROGRAM, IN A SANDBOX (cutbox-door.mjs). By AI agents, Wed Nov 11 2026. No macro, syntax, notation, axiom, sorry.
-/
import Derived.Test.YtahofpgjianhdaaGreatDoorRows
import GoSem.ClaimSeven
namespace Go.Proofs.YtahofpgjianhdaaGreatDoor
namespace Rows

/-- THE TIED CARD OF 'privitylaw19.VSSCompleteMatchesReference'. -/
def vSSCompleteMatchesReferenceCard : Claim7 := { stood := { row := vSSCompleteMatchesReferenceRow, standIns := [], harness := (true, "54a06071e2c9ac4a59bf004b097d9bd6aae4a5a0dce0adb63097aaa15ca4d18f"), looks := false }, kinds := [], alts := [], laidByText := true, laidKinds := [.data], laidTests := true, laidLooks := .later }
def VSSCompleteMatchesReferenceCardSaid : Prop := Claim7.holds Tryz.pinned (.plain (OpenSpec.ofChange vSSCompleteMatchesReferenceSpec)) vSSCompleteMatchesReferenceCard

/-- THE TIED CARD OF 'privitylaw19.VSSHonestDealerNeverDisqualified'. -/
def vSSHonestDealerNeverDisqualifiedCard : Claim7 := { stood := { row := vSSHonestDealerNeverDisqualifiedRow, standIns := [], harness := (true, "54a06071e2c9ac4a59bf004b097d9bd6aae4a5a0dce0adb63097aaa15ca4d18f"), looks := false }, kinds := [], alts := [], laidByText := true, laidKinds := [.data], laidTests := true, laidLooks := .later }
def VSSHonestDealerNeverDisqualifiedCardSaid : Prop := Claim7.holds Tryz.pinned (.plain (OpenSpec.ofChange vSSHonestDealerNeverDisqualifiedSpec)) vSSHonestDealerNeverDisqualifiedCard

/-- THE TIED CARD OF 'privitylaw19.VSSMatchesReference'. -/
def vSSMatchesReferenceCard : Claim7 := { stood := { row := vSSMatchesReferenceRow, standIns := [], harness := (true, "54a06071e2c9ac4a59bf004b097d9bd6aae4a5a0dce0adb63097aaa15ca4d18f"), looks := false }, kinds := [], alts := [], laidByText := true, laidKinds := [.data], laidTests := true, laidLooks := .later }
def VSSMatchesReferenceCardSaid : Prop := Claim7.holds Tryz.pinned (.plain (OpenSpec.ofChange vSSMatchesReferenceSpec)) vSSMatchesReferenceCard

/-- THE TIED CARD OF 'privitylaw19.VSSWithoutDeviations'. -/
def vSSWithoutDeviationsCard : Claim7 := { stood := { row := vSSWithoutDeviationsRow, standIns := [], harness := (true, "54a06071e2c9ac4a59bf004b097d9bd6aae4a5a0dce0adb63097aaa15ca4d18f"), looks := false }, kinds := [], alts := [], laidByText := true, laidKinds := [.data], laidTests := true, laidLooks := .later }
def VSSWithoutDeviationsCardSaid : Prop := Claim7.holds Tryz.pinned (.plain (OpenSpec.ofChange vSSWithoutDeviationsSpec)) vSSWithoutDeviationsCard

/-- THE TIED CARD OF 'privitylaw19.VSSCommitsEveryDealer'. -/
def vSSCommitsEveryDealerCard : Claim7 := { stood := { row := vSSCommitsEveryDealerRow, standIns := [], harness := (true, "54a06071e2c9ac4a59bf004b097d9bd6aae4a5a0dce0adb63097aaa15ca4d18f"), looks := false }, kinds := [], alts := [], laidByText := true, laidKinds := [.data], laidTests := true, laidLooks := .later }
def VSSCommitsEveryDealerCardSaid : Prop := Claim7.holds Tryz.pinned (.plain (OpenSpec.ofChange vSSCommitsEveryDealerSpec)) vSSCommitsEveryDealerCard

/-- THE TIED CARD OF 'privitylaw19.VSSHonestSharesReconstruct'. -/
def vSSHonestSharesReconstructCard : Claim7 := { stood := { row := vSSHonestSharesReconstructRow, standIns := [], harness := (true, "54a06071e2c9ac4a59bf004b097d9bd6aae4a5a0dce0adb63097aaa15ca4d18f"), looks := false }, kinds := [], alts := [], laidByText := true, laidKinds := [.data], laidTests := true, laidLooks := .later }
def VSSHonestSharesReconstructCardSaid : Prop := Claim7.holds Tryz.pinned (.plain (OpenSpec.ofChange vSSHonestSharesReconstructSpec)) vSSHonestSharesReconstructCard

/-- THE TIED CARD OF 'privitylaw19.VSSPerfectSecrecy'. -/
def vSSPerfectSecrecyCard : Claim7 := { stood := { row := vSSPerfectSecrecyRow, standIns := [], harness := (true, "54a06071e2c9ac4a59bf004b097d9bd6aae4a5a0dce0adb63097aaa15ca4d18f"), looks := false }, kinds := [], alts := [], laidByText := true, laidKinds := [.data], laidTests := true, laidLooks := .later }
def VSSPerfectSecrecyCardSaid : Prop := Claim7.holds Tryz.pinned (.plain (OpenSpec.ofChange vSSPerfectSecrecySpec)) vSSPerfectSecrecyCard

/-- THE TIED CARD OF 'privitylaw19.VSSSumsAreSharings'. -/
def vSSSumsAreSharingsCard : Claim7 := { stood := { row := vSSSumsAreSharingsRow, standIns := [], harness := (true, "54a06071e2c9ac4a59bf004b097d9bd6aae4a5a0dce0adb63097aaa15ca4d18f"), looks := false }, kinds := [], alts := [], laidByText := true, laidKinds := [.data], laidTests := true, laidLooks := .later }
def VSSSumsAreSharingsCardSaid : Prop := Claim7.holds Tryz.pinned (.plain (OpenSpec.ofChange vSSSumsAreSharingsSpec)) vSSSumsAreSharingsCard

/-- THE SECOND FORM's CARD OF 'privitylaw19.VSSCompleteMatchesReference'. -/
def vSSCompleteMatchesReferenceUptoCard : Claim7 := { stood := { row := vSSCompleteMatchesReferenceUptoRow, standIns := [], harness := (true, "54a06071e2c9ac4a59bf004b097d9bd6aae4a5a0dce0adb63097aaa15ca4d18f"), looks := false }, kinds := [], alts := [], laidByText := true, laidKinds := [.data], laidTests := true, laidLooks := .later }
def VSSCompleteMatchesReferenceUptoCardSaid : Prop := Claim7.holds Tryz.pinned (.plain (OpenSpec.upto vSSCompleteMatchesReferenceSpec)) vSSCompleteMatchesReferenceUptoCard

/-- THE SECOND FORM's CARD OF 'privitylaw19.VSSHonestDealerNeverDisqualified'. -/
def vSSHonestDealerNeverDisqualifiedUptoCard : Claim7 := { stood := { row := vSSHonestDealerNeverDisqualifiedUptoRow, standIns := [], harness := (true, "54a06071e2c9ac4a59bf004b097d9bd6aae4a5a0dce0adb63097aaa15ca4d18f"), looks := false }, kinds := [], alts := [], laidByText := true, laidKinds := [.data], laidTests := true, laidLooks := .later }
def VSSHonestDealerNeverDisqualifiedUptoCardSaid : Prop := Claim7.holds Tryz.pinned (.plain (OpenSpec.upto vSSHonestDealerNeverDisqualifiedSpec)) vSSHonestDealerNeverDisqualifiedUptoCard

/-- THE SECOND FORM's CARD OF 'privitylaw19.VSSMatchesReference'. -/
def vSSMatchesReferenceUptoCard : Claim7 := { stood := { row := vSSMatchesReferenceUptoRow, standIns := [], harness := (true, "54a06071e2c9ac4a59bf004b097d9bd6aae4a5a0dce0adb63097aaa15ca4d18f"), looks := false }, kinds := [], alts := [], laidByText := true, laidKinds := [.data], laidTests := true, laidLooks := .later }
def VSSMatchesReferenceUptoCardSaid : Prop := Claim7.holds Tryz.pinned (.plain (OpenSpec.upto vSSMatchesReferenceSpec)) vSSMatchesReferenceUptoCard

/-- THE SECOND FORM's CARD OF 'privitylaw19.VSSWithoutDeviations'. -/
def vSSWithoutDeviationsUptoCard : Claim7 := { stood := { row := vSSWithoutDeviationsUptoRow, standIns := [], harness := (true, "54a06071e2c9ac4a59bf004b097d9bd6aae4a5a0dce0adb63097aaa15ca4d18f"), looks := false }, kinds := [], alts := [], laidByText := true, laidKinds := [.data], laidTests := true, laidLooks := .later }
def VSSWithoutDeviationsUptoCardSaid : Prop := Claim7.holds Tryz.pinned (.plain (OpenSpec.upto vSSWithoutDeviationsSpec)) vSSWithoutDeviationsUptoCard

/-- THE SECOND FORM's CARD OF 'privitylaw19.VSSCommitsEveryDealer'. -/
def vSSCommitsEveryDealerUptoCard : Claim7 := { stood := { row := vSSCommitsEveryDealerUptoRow, standIns := [], harness := (true, "54a06071e2c9ac4a59bf004b097d9bd6aae4a5a0dce0adb63097aaa15ca4d18f"), looks := false }, kinds := [], alts := [], laidByText := true, laidKinds := [.data], laidTests := true, laidLooks := .later }
def VSSCommitsEveryDealerUptoCardSaid : Prop := Claim7.holds Tryz.pinned (.plain (OpenSpec.upto vSSCommitsEveryDealerSpec)) vSSCommitsEveryDealerUptoCard

/-- THE SECOND FORM's CARD OF 'privitylaw19.VSSHonestSharesReconstruct'. -/
def vSSHonestSharesReconstructUptoCard : Claim7 := { stood := { row := vSSHonestSharesReconstructUptoRow, standIns := [], harness := (true, "54a06071e2c9ac4a59bf004b097d9bd6aae4a5a0dce0adb63097aaa15ca4d18f"), looks := false }, kinds := [], alts := [], laidByText := true, laidKinds := [.data], laidTests := true, laidLooks := .later }
def VSSHonestSharesReconstructUptoCardSaid : Prop := Claim7.holds Tryz.pinned (.plain (OpenSpec.upto vSSHonestSharesReconstructSpec)) vSSHonestSharesReconstructUptoCard

/-- THE SECOND FORM's CARD OF 'privitylaw19.VSSPerfectSecrecy'. -/
def vSSPerfectSecrecyUptoCard : Claim7 := { stood := { row := vSSPerfectSecrecyUptoRow, standIns := [], harness := (true, "54a06071e2c9ac4a59bf004b097d9bd6aae4a5a0dce0adb63097aaa15ca4d18f"), looks := false }, kinds := [], alts := [], laidByText := true, laidKinds := [.data], laidTests := true, laidLooks := .later }
def VSSPerfectSecrecyUptoCardSaid : Prop := Claim7.holds Tryz.pinned (.plain (OpenSpec.upto vSSPerfectSecrecySpec)) vSSPerfectSecrecyUptoCard

/-- THE SECOND FORM's CARD OF 'privitylaw19.VSSSumsAreSharings'. -/
def vSSSumsAreSharingsUptoCard : Claim7 := { stood := { row := vSSSumsAreSharingsUptoRow, standIns := [], harness := (true, "54a06071e2c9ac4a59bf004b097d9bd6aae4a5a0dce0adb63097aaa15ca4d18f"), looks := false }, kinds := [], alts := [], laidByText := true, laidKinds := [.data], laidTests := true, laidLooks := .later }
def VSSSumsAreSharingsUptoCardSaid : Prop := Claim7.holds Tryz.pinned (.plain (OpenSpec.upto vSSSumsAreSharingsSpec)) vSSSumsAreSharingsUptoCard
end Rows
end Go.Proofs.YtahofpgjianhdaaGreatDoor
