/-
  NARROWER THAN 'FOR EVERY INPUT', by the rows' own cells (each row's printed sentence says how): VSSCompleteMatchesReference: laid · VSSHonestDealerNeverDisqualified: laid · VSSMatchesReference: laid · VSSWithoutDeviations: laid · VSSCommitsEveryDealer: laid · VSSHonestSharesReconstruct: laid · VSSPerfectSecrecy: laid · VSSSumsAreSharings: laid.
  DERIVED. THE GIVEN ROWS OF THIS SEAT. 8 by the template 'for every input the law returns true; each argument reads behind the call as it read before'; 0 by the template 'total and deterministic' (their statements: YtahofpgjianhdaaGreatDoorTotals.lean).
  GIVEN WITH THE SEED: the statements are not yours to turn. If you find one false, say at which input.
  Laid BY PROGRAM, IN A SANDBOX (cutbox-rows.mjs): the forced cells as the released guide's own fill.sh prints them over the translation 349cc1ed82639bd9… (all of the seat's roots in one cut). By AI agents, Wed Nov 11 2026. No macro, syntax, notation, axiom, sorry.
-/
import Derived.Test.YtahofpgjianhdaaGreatDoorChecked
import GoSem.Claim
import GoSem.ClaimJoined
import GoSem.ClaimMapViews
import Derived.JoinedTies
import Derived.KernelRfl
namespace Go.Proofs.YtahofpgjianhdaaGreatDoor
/- THE CELL 'sum', in the pinned program and in every row, IS THE sha256 OF THE DUMP (.gsa) THAT YtahofpgjianhdaaGreatDoorProg.lean LOADS. Nothing in Lean hashes anything: it is a label: what it is worth is what the hold of that sum in a sandbox is worth. -/
noncomputable def Tryz.pinned : Pinned := { name := "ytahofpgjianhdaagreatdoor", sum := "349cc1ed82639bd94d6a42772042ae47bb48a828f42f9029e177edf747c508ed", checked := Tryz.checked }
namespace Rows
def none {H : Type} : Left H := { results := [], args := [] }

/- WHAT THE LISTED PACKAGE-LEVEL VARIABLES READ AS WHEN THE CALL BEGINS. Each datum BY PROGRAM (the guide's laid-datum.mjs) off the statement by which the dump's own 'gosem.cut.vars' lays the variable. In a bare row this is a premise. The card (YtahofpgjianhdaaGreatDoorCards.lean) ties it to the program's text. -/
def laid_privity_field_exps {H : Type} : DataW H := .agg [.lit (.int .i64 5), .lit (.int .i64 7), .lit (.int .i64 13), .lit (.int .i64 17), .lit (.int .i64 19), .lit (.int .i64 31), .lit (.int .i64 61)]

/-- 'privitylaw19.VSSCompleteMatchesReference': WHATEVER THE INPUT: true; the input reads as it did. -/
def vSSCompleteMatchesReferenceSpec : ChangeSpec := { name := "vSSCompleteMatchesReference", fn := fun _ => fun
  | [d] => { results := [.lit (.bool true)], args := [d] }
  | _ => none }
def vSSCompleteMatchesReferenceRow : OpenClaim := { program := "ytahofpgjianhdaagreatdoor", sum := "349cc1ed82639bd94d6a42772042ae47bb48a828f42f9029e177edf747c508ed", func := "privity/privitylaw19.VSSCompleteMatchesReference", spec := "vSSCompleteMatchesReference", inPlace := ["math/bits.Add64"], unfollowed := true, recurses := true, named := ["privity/field.exps"], apart := false, laid := [("privity/field.exps", laid_privity_field_exps)] }
def VSSCompleteMatchesReferenceSaid : Prop := vSSCompleteMatchesReferenceRow.holds Tryz.pinned (OpenSpec.ofChange vSSCompleteMatchesReferenceSpec)

/-- ITS FALSE NEIGHBOUR: 'it returns false'. Refute it at one input. -/
def vSSCompleteMatchesReferenceWrong : ChangeSpec := { name := "vSSCompleteMatchesReference", fn := fun _ => fun
  | [d] => { results := [.lit (.bool false)], args := [d] }
  | _ => none }
def VSSCompleteMatchesReferenceWrongFalsely : Prop := vSSCompleteMatchesReferenceRow.holds Tryz.pinned (OpenSpec.ofChange vSSCompleteMatchesReferenceWrong)

/-- 'privitylaw19.VSSHonestDealerNeverDisqualified': WHATEVER THE INPUT: true; the input reads as it did. -/
def vSSHonestDealerNeverDisqualifiedSpec : ChangeSpec := { name := "vSSHonestDealerNeverDisqualified", fn := fun _ => fun
  | [d] => { results := [.lit (.bool true)], args := [d] }
  | _ => none }
def vSSHonestDealerNeverDisqualifiedRow : OpenClaim := { program := "ytahofpgjianhdaagreatdoor", sum := "349cc1ed82639bd94d6a42772042ae47bb48a828f42f9029e177edf747c508ed", func := "privity/privitylaw19.VSSHonestDealerNeverDisqualified", spec := "vSSHonestDealerNeverDisqualified", inPlace := ["math/bits.Add64"], unfollowed := true, recurses := true, named := ["privity/field.exps"], apart := false, laid := [("privity/field.exps", laid_privity_field_exps)] }
def VSSHonestDealerNeverDisqualifiedSaid : Prop := vSSHonestDealerNeverDisqualifiedRow.holds Tryz.pinned (OpenSpec.ofChange vSSHonestDealerNeverDisqualifiedSpec)

/-- ITS FALSE NEIGHBOUR: 'it returns false'. Refute it at one input. -/
def vSSHonestDealerNeverDisqualifiedWrong : ChangeSpec := { name := "vSSHonestDealerNeverDisqualified", fn := fun _ => fun
  | [d] => { results := [.lit (.bool false)], args := [d] }
  | _ => none }
def VSSHonestDealerNeverDisqualifiedWrongFalsely : Prop := vSSHonestDealerNeverDisqualifiedRow.holds Tryz.pinned (OpenSpec.ofChange vSSHonestDealerNeverDisqualifiedWrong)

/-- 'privitylaw19.VSSMatchesReference': WHATEVER THE INPUT: true; the input reads as it did. -/
def vSSMatchesReferenceSpec : ChangeSpec := { name := "vSSMatchesReference", fn := fun _ => fun
  | [d] => { results := [.lit (.bool true)], args := [d] }
  | _ => none }
def vSSMatchesReferenceRow : OpenClaim := { program := "ytahofpgjianhdaagreatdoor", sum := "349cc1ed82639bd94d6a42772042ae47bb48a828f42f9029e177edf747c508ed", func := "privity/privitylaw19.VSSMatchesReference", spec := "vSSMatchesReference", inPlace := ["math/bits.Add64"], unfollowed := true, recurses := true, named := ["privity/field.exps"], apart := false, laid := [("privity/field.exps", laid_privity_field_exps)] }
def VSSMatchesReferenceSaid : Prop := vSSMatchesReferenceRow.holds Tryz.pinned (OpenSpec.ofChange vSSMatchesReferenceSpec)

/-- ITS FALSE NEIGHBOUR: 'it returns false'. Refute it at one input. -/
def vSSMatchesReferenceWrong : ChangeSpec := { name := "vSSMatchesReference", fn := fun _ => fun
  | [d] => { results := [.lit (.bool false)], args := [d] }
  | _ => none }
def VSSMatchesReferenceWrongFalsely : Prop := vSSMatchesReferenceRow.holds Tryz.pinned (OpenSpec.ofChange vSSMatchesReferenceWrong)

/-- 'privitylaw19.VSSWithoutDeviations': WHATEVER THE INPUT: true; the input reads as it did. -/
def vSSWithoutDeviationsSpec : ChangeSpec := { name := "vSSWithoutDeviations", fn := fun _ => fun
  | [d] => { results := [.lit (.bool true)], args := [d] }
  | _ => none }
def vSSWithoutDeviationsRow : OpenClaim := { program := "ytahofpgjianhdaagreatdoor", sum := "349cc1ed82639bd94d6a42772042ae47bb48a828f42f9029e177edf747c508ed", func := "privity/privitylaw19.VSSWithoutDeviations", spec := "vSSWithoutDeviations", inPlace := ["math/bits.Add64"], unfollowed := true, recurses := true, named := ["privity/field.exps"], apart := false, laid := [("privity/field.exps", laid_privity_field_exps)] }
def VSSWithoutDeviationsSaid : Prop := vSSWithoutDeviationsRow.holds Tryz.pinned (OpenSpec.ofChange vSSWithoutDeviationsSpec)

/-- ITS FALSE NEIGHBOUR: 'it returns false'. Refute it at one input. -/
def vSSWithoutDeviationsWrong : ChangeSpec := { name := "vSSWithoutDeviations", fn := fun _ => fun
  | [d] => { results := [.lit (.bool false)], args := [d] }
  | _ => none }
def VSSWithoutDeviationsWrongFalsely : Prop := vSSWithoutDeviationsRow.holds Tryz.pinned (OpenSpec.ofChange vSSWithoutDeviationsWrong)

/-- 'privitylaw19.VSSCommitsEveryDealer': WHATEVER THE INPUT: true; the input reads as it did. -/
def vSSCommitsEveryDealerSpec : ChangeSpec := { name := "vSSCommitsEveryDealer", fn := fun _ => fun
  | [d] => { results := [.lit (.bool true)], args := [d] }
  | _ => none }
def vSSCommitsEveryDealerRow : OpenClaim := { program := "ytahofpgjianhdaagreatdoor", sum := "349cc1ed82639bd94d6a42772042ae47bb48a828f42f9029e177edf747c508ed", func := "privity/privitylaw19.VSSCommitsEveryDealer", spec := "vSSCommitsEveryDealer", inPlace := ["math/bits.Add64"], unfollowed := true, recurses := true, named := ["privity/field.exps"], apart := false, laid := [("privity/field.exps", laid_privity_field_exps)] }
def VSSCommitsEveryDealerSaid : Prop := vSSCommitsEveryDealerRow.holds Tryz.pinned (OpenSpec.ofChange vSSCommitsEveryDealerSpec)

/-- ITS FALSE NEIGHBOUR: 'it returns false'. Refute it at one input. -/
def vSSCommitsEveryDealerWrong : ChangeSpec := { name := "vSSCommitsEveryDealer", fn := fun _ => fun
  | [d] => { results := [.lit (.bool false)], args := [d] }
  | _ => none }
def VSSCommitsEveryDealerWrongFalsely : Prop := vSSCommitsEveryDealerRow.holds Tryz.pinned (OpenSpec.ofChange vSSCommitsEveryDealerWrong)

/-- 'privitylaw19.VSSHonestSharesReconstruct': WHATEVER THE INPUT: true; the input reads as it did. -/
def vSSHonestSharesReconstructSpec : ChangeSpec := { name := "vSSHonestSharesReconstruct", fn := fun _ => fun
  | [d] => { results := [.lit (.bool true)], args := [d] }
  | _ => none }
def vSSHonestSharesReconstructRow : OpenClaim := { program := "ytahofpgjianhdaagreatdoor", sum := "349cc1ed82639bd94d6a42772042ae47bb48a828f42f9029e177edf747c508ed", func := "privity/privitylaw19.VSSHonestSharesReconstruct", spec := "vSSHonestSharesReconstruct", inPlace := ["math/bits.Add64"], unfollowed := true, recurses := true, named := ["privity/field.exps"], apart := false, laid := [("privity/field.exps", laid_privity_field_exps)] }
def VSSHonestSharesReconstructSaid : Prop := vSSHonestSharesReconstructRow.holds Tryz.pinned (OpenSpec.ofChange vSSHonestSharesReconstructSpec)

/-- ITS FALSE NEIGHBOUR: 'it returns false'. Refute it at one input. -/
def vSSHonestSharesReconstructWrong : ChangeSpec := { name := "vSSHonestSharesReconstruct", fn := fun _ => fun
  | [d] => { results := [.lit (.bool false)], args := [d] }
  | _ => none }
def VSSHonestSharesReconstructWrongFalsely : Prop := vSSHonestSharesReconstructRow.holds Tryz.pinned (OpenSpec.ofChange vSSHonestSharesReconstructWrong)

/-- 'privitylaw19.VSSPerfectSecrecy': WHATEVER THE INPUT: true; the input reads as it did. -/
def vSSPerfectSecrecySpec : ChangeSpec := { name := "vSSPerfectSecrecy", fn := fun _ => fun
  | [d] => { results := [.lit (.bool true)], args := [d] }
  | _ => none }
def vSSPerfectSecrecyRow : OpenClaim := { program := "ytahofpgjianhdaagreatdoor", sum := "349cc1ed82639bd94d6a42772042ae47bb48a828f42f9029e177edf747c508ed", func := "privity/privitylaw19.VSSPerfectSecrecy", spec := "vSSPerfectSecrecy", inPlace := ["math/bits.Add64"], unfollowed := true, recurses := true, named := ["privity/field.exps"], apart := false, laid := [("privity/field.exps", laid_privity_field_exps)] }
def VSSPerfectSecrecySaid : Prop := vSSPerfectSecrecyRow.holds Tryz.pinned (OpenSpec.ofChange vSSPerfectSecrecySpec)

/-- ITS FALSE NEIGHBOUR: 'it returns false'. Refute it at one input. -/
def vSSPerfectSecrecyWrong : ChangeSpec := { name := "vSSPerfectSecrecy", fn := fun _ => fun
  | [d] => { results := [.lit (.bool false)], args := [d] }
  | _ => none }
def VSSPerfectSecrecyWrongFalsely : Prop := vSSPerfectSecrecyRow.holds Tryz.pinned (OpenSpec.ofChange vSSPerfectSecrecyWrong)

/-- 'privitylaw19.VSSSumsAreSharings': WHATEVER THE INPUT: true; the input reads as it did. -/
def vSSSumsAreSharingsSpec : ChangeSpec := { name := "vSSSumsAreSharings", fn := fun _ => fun
  | [d] => { results := [.lit (.bool true)], args := [d] }
  | _ => none }
def vSSSumsAreSharingsRow : OpenClaim := { program := "ytahofpgjianhdaagreatdoor", sum := "349cc1ed82639bd94d6a42772042ae47bb48a828f42f9029e177edf747c508ed", func := "privity/privitylaw19.VSSSumsAreSharings", spec := "vSSSumsAreSharings", inPlace := ["math/bits.Add64"], unfollowed := true, recurses := true, named := ["privity/field.exps"], apart := false, laid := [("privity/field.exps", laid_privity_field_exps)] }
def VSSSumsAreSharingsSaid : Prop := vSSSumsAreSharingsRow.holds Tryz.pinned (OpenSpec.ofChange vSSSumsAreSharingsSpec)

/-- ITS FALSE NEIGHBOUR: 'it returns false'. Refute it at one input. -/
def vSSSumsAreSharingsWrong : ChangeSpec := { name := "vSSSumsAreSharings", fn := fun _ => fun
  | [d] => { results := [.lit (.bool false)], args := [d] }
  | _ => none }
def VSSSumsAreSharingsWrongFalsely : Prop := vSSSumsAreSharingsRow.holds Tryz.pinned (OpenSpec.ofChange vSSSumsAreSharingsWrong)

/- THE SECOND FORM. 'bulk': how many values and letters a reading holds, each counted each time it is reached (what is shared counts as often as it is met; a slice's spare places count too). A statement '..UptoSaid' is the law's where the arguments, and the package variables that the reading takes, are together of bulk at most 1048576: NARROWER than '..Said'. Prove '..Said' where nothing that the law and all that it calls make is longer than what came in: it says more and counts as full. Else prove '..UptoSaid'. A law counts once. -/
mutual
def uptoBulk {H : Type} : DataW H → Nat
  | .lit (.string bytes) => bytes.length + 1
  | .lit _ => 1
  | .nil => 1
  | .ptr d => uptoBulk d + 1
  | .slice elems spare => uptoBulkAll elems + uptoBulkAll spare + 1
  | .agg parts => uptoBulkAll parts + 1
  | .iface _ d => uptoBulk d + 1
  | .map entries => uptoBulkEntries entries + 1
  | .held _ => 1
def uptoBulkAll {H : Type} : List (DataW H) → Nat
  | [] => 0
  | d :: r => uptoBulk d + uptoBulkAll r
def uptoBulkEntries {H : Type} : List (Lit × DataW H) → Nat
  | [] => 0
  | x :: r => uptoBulkEntry x + uptoBulkEntries r
def uptoBulkEntry {H : Type} : Lit × DataW H → Nat
  | (.string bytes, d) => bytes.length + uptoBulk d + 1
  | (_, d) => uptoBulk d + 1
 end
def uptoSmall : (H : Type) → List (DataW H) → Bool := fun _ ds => decide (uptoBulkAll ds ≤ 1048576)
def OpenSpec.upto (s : _root_.Go.ChangeSpec) : _root_.Go.OpenSpec := { _root_.Go.OpenSpec.ofChange s with cond := some uptoSmall }

/-- 'privitylaw19.VSSCompleteMatchesReference', WHERE WHAT IT READS IS OF BULK AT MOST 1048576: true; the input reads as it did. -/
def vSSCompleteMatchesReferenceUptoRow : OpenClaim := { program := "ytahofpgjianhdaagreatdoor", sum := "349cc1ed82639bd94d6a42772042ae47bb48a828f42f9029e177edf747c508ed", func := "privity/privitylaw19.VSSCompleteMatchesReference", spec := "vSSCompleteMatchesReference", inPlace := ["math/bits.Add64"], unfollowed := true, recurses := true, named := ["privity/field.exps"], apart := false, laid := [("privity/field.exps", laid_privity_field_exps)], narrowed := true }
def VSSCompleteMatchesReferenceUptoSaid : Prop := vSSCompleteMatchesReferenceUptoRow.holds Tryz.pinned (OpenSpec.upto vSSCompleteMatchesReferenceSpec)

/-- 'privitylaw19.VSSHonestDealerNeverDisqualified', WHERE WHAT IT READS IS OF BULK AT MOST 1048576: true; the input reads as it did. -/
def vSSHonestDealerNeverDisqualifiedUptoRow : OpenClaim := { program := "ytahofpgjianhdaagreatdoor", sum := "349cc1ed82639bd94d6a42772042ae47bb48a828f42f9029e177edf747c508ed", func := "privity/privitylaw19.VSSHonestDealerNeverDisqualified", spec := "vSSHonestDealerNeverDisqualified", inPlace := ["math/bits.Add64"], unfollowed := true, recurses := true, named := ["privity/field.exps"], apart := false, laid := [("privity/field.exps", laid_privity_field_exps)], narrowed := true }
def VSSHonestDealerNeverDisqualifiedUptoSaid : Prop := vSSHonestDealerNeverDisqualifiedUptoRow.holds Tryz.pinned (OpenSpec.upto vSSHonestDealerNeverDisqualifiedSpec)

/-- 'privitylaw19.VSSMatchesReference', WHERE WHAT IT READS IS OF BULK AT MOST 1048576: true; the input reads as it did. -/
def vSSMatchesReferenceUptoRow : OpenClaim := { program := "ytahofpgjianhdaagreatdoor", sum := "349cc1ed82639bd94d6a42772042ae47bb48a828f42f9029e177edf747c508ed", func := "privity/privitylaw19.VSSMatchesReference", spec := "vSSMatchesReference", inPlace := ["math/bits.Add64"], unfollowed := true, recurses := true, named := ["privity/field.exps"], apart := false, laid := [("privity/field.exps", laid_privity_field_exps)], narrowed := true }
def VSSMatchesReferenceUptoSaid : Prop := vSSMatchesReferenceUptoRow.holds Tryz.pinned (OpenSpec.upto vSSMatchesReferenceSpec)

/-- 'privitylaw19.VSSWithoutDeviations', WHERE WHAT IT READS IS OF BULK AT MOST 1048576: true; the input reads as it did. -/
def vSSWithoutDeviationsUptoRow : OpenClaim := { program := "ytahofpgjianhdaagreatdoor", sum := "349cc1ed82639bd94d6a42772042ae47bb48a828f42f9029e177edf747c508ed", func := "privity/privitylaw19.VSSWithoutDeviations", spec := "vSSWithoutDeviations", inPlace := ["math/bits.Add64"], unfollowed := true, recurses := true, named := ["privity/field.exps"], apart := false, laid := [("privity/field.exps", laid_privity_field_exps)], narrowed := true }
def VSSWithoutDeviationsUptoSaid : Prop := vSSWithoutDeviationsUptoRow.holds Tryz.pinned (OpenSpec.upto vSSWithoutDeviationsSpec)

/-- 'privitylaw19.VSSCommitsEveryDealer', WHERE WHAT IT READS IS OF BULK AT MOST 1048576: true; the input reads as it did. -/
def vSSCommitsEveryDealerUptoRow : OpenClaim := { program := "ytahofpgjianhdaagreatdoor", sum := "349cc1ed82639bd94d6a42772042ae47bb48a828f42f9029e177edf747c508ed", func := "privity/privitylaw19.VSSCommitsEveryDealer", spec := "vSSCommitsEveryDealer", inPlace := ["math/bits.Add64"], unfollowed := true, recurses := true, named := ["privity/field.exps"], apart := false, laid := [("privity/field.exps", laid_privity_field_exps)], narrowed := true }
def VSSCommitsEveryDealerUptoSaid : Prop := vSSCommitsEveryDealerUptoRow.holds Tryz.pinned (OpenSpec.upto vSSCommitsEveryDealerSpec)

/-- 'privitylaw19.VSSHonestSharesReconstruct', WHERE WHAT IT READS IS OF BULK AT MOST 1048576: true; the input reads as it did. -/
def vSSHonestSharesReconstructUptoRow : OpenClaim := { program := "ytahofpgjianhdaagreatdoor", sum := "349cc1ed82639bd94d6a42772042ae47bb48a828f42f9029e177edf747c508ed", func := "privity/privitylaw19.VSSHonestSharesReconstruct", spec := "vSSHonestSharesReconstruct", inPlace := ["math/bits.Add64"], unfollowed := true, recurses := true, named := ["privity/field.exps"], apart := false, laid := [("privity/field.exps", laid_privity_field_exps)], narrowed := true }
def VSSHonestSharesReconstructUptoSaid : Prop := vSSHonestSharesReconstructUptoRow.holds Tryz.pinned (OpenSpec.upto vSSHonestSharesReconstructSpec)

/-- 'privitylaw19.VSSPerfectSecrecy', WHERE WHAT IT READS IS OF BULK AT MOST 1048576: true; the input reads as it did. -/
def vSSPerfectSecrecyUptoRow : OpenClaim := { program := "ytahofpgjianhdaagreatdoor", sum := "349cc1ed82639bd94d6a42772042ae47bb48a828f42f9029e177edf747c508ed", func := "privity/privitylaw19.VSSPerfectSecrecy", spec := "vSSPerfectSecrecy", inPlace := ["math/bits.Add64"], unfollowed := true, recurses := true, named := ["privity/field.exps"], apart := false, laid := [("privity/field.exps", laid_privity_field_exps)], narrowed := true }
def VSSPerfectSecrecyUptoSaid : Prop := vSSPerfectSecrecyUptoRow.holds Tryz.pinned (OpenSpec.upto vSSPerfectSecrecySpec)

/-- 'privitylaw19.VSSSumsAreSharings', WHERE WHAT IT READS IS OF BULK AT MOST 1048576: true; the input reads as it did. -/
def vSSSumsAreSharingsUptoRow : OpenClaim := { program := "ytahofpgjianhdaagreatdoor", sum := "349cc1ed82639bd94d6a42772042ae47bb48a828f42f9029e177edf747c508ed", func := "privity/privitylaw19.VSSSumsAreSharings", spec := "vSSSumsAreSharings", inPlace := ["math/bits.Add64"], unfollowed := true, recurses := true, named := ["privity/field.exps"], apart := false, laid := [("privity/field.exps", laid_privity_field_exps)], narrowed := true }
def VSSSumsAreSharingsUptoSaid : Prop := vSSSumsAreSharingsUptoRow.holds Tryz.pinned (OpenSpec.upto vSSSumsAreSharingsSpec)

end Rows
end Go.Proofs.YtahofpgjianhdaaGreatDoor
