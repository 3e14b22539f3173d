/-
  NARROWER THAN 'FOR EVERY INPUT', by the rows' own cells (each row's printed sentence says how): RecoveryCorrect: laid · RecoveryMessages: laid · RecoveryPrivacy: laid · RecoveryIgnoresOwnRow: laid · RecoveryLinear: laid · ReconstructRobust: laid · ReconstructLinear: laid · ReconstructRepeatable: laid · ReconstructDetection: laid · ReconstructRowsRobust: laid · ReconstructNothing: laid · TriplestoreTakeMatchesReference: laid · TriplestoreHandsOutOnce: laid · TriplestoreTakeIsAdditive: laid · TriplestoreVerifyAgreement: laid · TriplestoreVerifyIsSound: laid · TriplestoreVerifyScaled: laid.
  DERIVED. THE GIVEN ROWS OF THIS SEAT. 17 by the template 'for every input the law returns true; each argument reads behind the call as it read before'; 0 by the template 'total and deterministic' (their statements: YtclhpomlfadohaaDoorTotals.lean).
  GIVEN WITH THE SEED: the statements are not yours to turn. If you find one false, say at which input.
  Laid BY PROGRAM, IN A SANDBOX (cutbox-rows.mjs): the forced cells as the released guide's own fill.sh prints them over the translation 19ba93f83c6233f8… (all of the seat's roots in one cut). By AI agents, Wed Nov 11 2026. No macro, syntax, notation, axiom, sorry.
-/
import Derived.Test.YtclhpomlfadohaaDoorChecked
import GoSem.Claim
import GoSem.ClaimJoined
import GoSem.ClaimMapViews
import Derived.JoinedTies
import Derived.KernelRfl
namespace Go.Proofs.YtclhpomlfadohaaDoor
/- THE CELL 'sum', in the pinned program and in every row, IS THE sha256 OF THE DUMP (.gsa) THAT YtclhpomlfadohaaDoorProg.lean LOADS. Nothing in Lean hashes anything: it is a label: what it is worth is what the hold of that sum in a sandbox is worth. -/
noncomputable def Tryd.pinned : Pinned := { name := "ytclhpomlfadohaadoor", sum := "19ba93f83c6233f8d753d0aa6f46e7fd3e525ba15983e10adfda7fee9431f942", checked := Tryd.checked }
namespace Rows
def none {H : Type} : Left H := { results := [], args := [] }

/- WHAT THE LISTED PACKAGE-LEVEL VARIABLES READ AS WHEN THE CALL BEGINS. Each datum BY PROGRAM (the guide's laid-datum.mjs) off the statement by which the dump's own 'gosem.cut.vars' lays the variable. In a bare row this is a premise. The card (YtclhpomlfadohaaDoorCards.lean) ties it to the program's text. -/
def laid_privity_field_exps {H : Type} : DataW H := .agg [.lit (.int .i64 5), .lit (.int .i64 7), .lit (.int .i64 13), .lit (.int .i64 17), .lit (.int .i64 19), .lit (.int .i64 31), .lit (.int .i64 61)]

/-- 'privitylaw47.RecoveryCorrect': WHATEVER THE INPUT: true; the input reads as it did. -/
def recoveryCorrectSpec : ChangeSpec := { name := "recoveryCorrect", fn := fun _ => fun
  | [d] => { results := [.lit (.bool true)], args := [d] }
  | _ => none }
def recoveryCorrectRow : OpenClaim := { program := "ytclhpomlfadohaadoor", sum := "19ba93f83c6233f8d753d0aa6f46e7fd3e525ba15983e10adfda7fee9431f942", func := "privity/privitylaw47.RecoveryCorrect", spec := "recoveryCorrect", inPlace := ["math/bits.Add64"], unfollowed := true, recurses := true, named := ["privity/field.exps"], apart := false, laid := [("privity/field.exps", laid_privity_field_exps)] }
def RecoveryCorrectSaid : Prop := recoveryCorrectRow.holds Tryd.pinned (OpenSpec.ofChange recoveryCorrectSpec)

/-- ITS FALSE NEIGHBOUR: 'it returns false'. Refute it at one input. -/
def recoveryCorrectWrong : ChangeSpec := { name := "recoveryCorrect", fn := fun _ => fun
  | [d] => { results := [.lit (.bool false)], args := [d] }
  | _ => none }
def RecoveryCorrectWrongFalsely : Prop := recoveryCorrectRow.holds Tryd.pinned (OpenSpec.ofChange recoveryCorrectWrong)

/-- 'privitylaw47.RecoveryMessages': WHATEVER THE INPUT: true; the input reads as it did. -/
def recoveryMessagesSpec : ChangeSpec := { name := "recoveryMessages", fn := fun _ => fun
  | [d] => { results := [.lit (.bool true)], args := [d] }
  | _ => none }
def recoveryMessagesRow : OpenClaim := { program := "ytclhpomlfadohaadoor", sum := "19ba93f83c6233f8d753d0aa6f46e7fd3e525ba15983e10adfda7fee9431f942", func := "privity/privitylaw47.RecoveryMessages", spec := "recoveryMessages", inPlace := ["math/bits.Add64"], unfollowed := true, recurses := true, named := ["privity/field.exps"], apart := false, laid := [("privity/field.exps", laid_privity_field_exps)] }
def RecoveryMessagesSaid : Prop := recoveryMessagesRow.holds Tryd.pinned (OpenSpec.ofChange recoveryMessagesSpec)

/-- ITS FALSE NEIGHBOUR: 'it returns false'. Refute it at one input. -/
def recoveryMessagesWrong : ChangeSpec := { name := "recoveryMessages", fn := fun _ => fun
  | [d] => { results := [.lit (.bool false)], args := [d] }
  | _ => none }
def RecoveryMessagesWrongFalsely : Prop := recoveryMessagesRow.holds Tryd.pinned (OpenSpec.ofChange recoveryMessagesWrong)

/-- 'privitylaw47.RecoveryPrivacy': WHATEVER THE INPUT: true; the input reads as it did. -/
def recoveryPrivacySpec : ChangeSpec := { name := "recoveryPrivacy", fn := fun _ => fun
  | [d1, d2, d3] => { results := [.lit (.bool true)], args := [d1, d2, d3] }
  | _ => none }
def recoveryPrivacyRow : OpenClaim := { program := "ytclhpomlfadohaadoor", sum := "19ba93f83c6233f8d753d0aa6f46e7fd3e525ba15983e10adfda7fee9431f942", func := "privity/privitylaw47.RecoveryPrivacy", spec := "recoveryPrivacy", inPlace := ["math/bits.Add64"], unfollowed := true, recurses := true, named := ["privity/field.exps"], apart := false, laid := [("privity/field.exps", laid_privity_field_exps)] }
def RecoveryPrivacySaid : Prop := recoveryPrivacyRow.holds Tryd.pinned (OpenSpec.ofChange recoveryPrivacySpec)

/-- ITS FALSE NEIGHBOUR: 'it returns false'. Refute it at one input. -/
def recoveryPrivacyWrong : ChangeSpec := { name := "recoveryPrivacy", fn := fun _ => fun
  | [d1, d2, d3] => { results := [.lit (.bool false)], args := [d1, d2, d3] }
  | _ => none }
def RecoveryPrivacyWrongFalsely : Prop := recoveryPrivacyRow.holds Tryd.pinned (OpenSpec.ofChange recoveryPrivacyWrong)

/-- 'privitylaw47.RecoveryIgnoresOwnRow': WHATEVER THE INPUT: true; the input reads as it did. -/
def recoveryIgnoresOwnRowSpec : ChangeSpec := { name := "recoveryIgnoresOwnRow", fn := fun _ => fun
  | [d1, d2] => { results := [.lit (.bool true)], args := [d1, d2] }
  | _ => none }
def recoveryIgnoresOwnRowRow : OpenClaim := { program := "ytclhpomlfadohaadoor", sum := "19ba93f83c6233f8d753d0aa6f46e7fd3e525ba15983e10adfda7fee9431f942", func := "privity/privitylaw47.RecoveryIgnoresOwnRow", spec := "recoveryIgnoresOwnRow", inPlace := ["math/bits.Add64"], unfollowed := true, recurses := true, named := ["privity/field.exps"], apart := false, laid := [("privity/field.exps", laid_privity_field_exps)] }
def RecoveryIgnoresOwnRowSaid : Prop := recoveryIgnoresOwnRowRow.holds Tryd.pinned (OpenSpec.ofChange recoveryIgnoresOwnRowSpec)

/-- ITS FALSE NEIGHBOUR: 'it returns false'. Refute it at one input. -/
def recoveryIgnoresOwnRowWrong : ChangeSpec := { name := "recoveryIgnoresOwnRow", fn := fun _ => fun
  | [d1, d2] => { results := [.lit (.bool false)], args := [d1, d2] }
  | _ => none }
def RecoveryIgnoresOwnRowWrongFalsely : Prop := recoveryIgnoresOwnRowRow.holds Tryd.pinned (OpenSpec.ofChange recoveryIgnoresOwnRowWrong)

/-- 'privitylaw47.RecoveryLinear': WHATEVER THE INPUT: true; the input reads as it did. -/
def recoveryLinearSpec : ChangeSpec := { name := "recoveryLinear", fn := fun _ => fun
  | [d] => { results := [.lit (.bool true)], args := [d] }
  | _ => none }
def recoveryLinearRow : OpenClaim := { program := "ytclhpomlfadohaadoor", sum := "19ba93f83c6233f8d753d0aa6f46e7fd3e525ba15983e10adfda7fee9431f942", func := "privity/privitylaw47.RecoveryLinear", spec := "recoveryLinear", inPlace := ["math/bits.Add64"], unfollowed := true, recurses := true, named := ["privity/field.exps"], apart := false, laid := [("privity/field.exps", laid_privity_field_exps)] }
def RecoveryLinearSaid : Prop := recoveryLinearRow.holds Tryd.pinned (OpenSpec.ofChange recoveryLinearSpec)

/-- ITS FALSE NEIGHBOUR: 'it returns false'. Refute it at one input. -/
def recoveryLinearWrong : ChangeSpec := { name := "recoveryLinear", fn := fun _ => fun
  | [d] => { results := [.lit (.bool false)], args := [d] }
  | _ => none }
def RecoveryLinearWrongFalsely : Prop := recoveryLinearRow.holds Tryd.pinned (OpenSpec.ofChange recoveryLinearWrong)

/-- 'privitylaw20.ReconstructRobust': WHATEVER THE INPUT: true; the input reads as it did. -/
def reconstructRobustSpec : ChangeSpec := { name := "reconstructRobust", fn := fun _ => fun
  | [d] => { results := [.lit (.bool true)], args := [d] }
  | _ => none }
def reconstructRobustRow : OpenClaim := { program := "ytclhpomlfadohaadoor", sum := "19ba93f83c6233f8d753d0aa6f46e7fd3e525ba15983e10adfda7fee9431f942", func := "privity/privitylaw20.ReconstructRobust", spec := "reconstructRobust", inPlace := ["math/bits.Add64"], unfollowed := true, recurses := true, named := ["privity/field.exps"], apart := false, laid := [("privity/field.exps", laid_privity_field_exps)] }
def ReconstructRobustSaid : Prop := reconstructRobustRow.holds Tryd.pinned (OpenSpec.ofChange reconstructRobustSpec)

/-- ITS FALSE NEIGHBOUR: 'it returns false'. Refute it at one input. -/
def reconstructRobustWrong : ChangeSpec := { name := "reconstructRobust", fn := fun _ => fun
  | [d] => { results := [.lit (.bool false)], args := [d] }
  | _ => none }
def ReconstructRobustWrongFalsely : Prop := reconstructRobustRow.holds Tryd.pinned (OpenSpec.ofChange reconstructRobustWrong)

/-- 'privitylaw20.ReconstructLinear': WHATEVER THE INPUT: true; the input reads as it did. -/
def reconstructLinearSpec : ChangeSpec := { name := "reconstructLinear", fn := fun _ => fun
  | [d1, d2] => { results := [.lit (.bool true)], args := [d1, d2] }
  | _ => none }
def reconstructLinearRow : OpenClaim := { program := "ytclhpomlfadohaadoor", sum := "19ba93f83c6233f8d753d0aa6f46e7fd3e525ba15983e10adfda7fee9431f942", func := "privity/privitylaw20.ReconstructLinear", spec := "reconstructLinear", inPlace := ["math/bits.Add64"], unfollowed := true, recurses := true, named := ["privity/field.exps"], apart := false, laid := [("privity/field.exps", laid_privity_field_exps)] }
def ReconstructLinearSaid : Prop := reconstructLinearRow.holds Tryd.pinned (OpenSpec.ofChange reconstructLinearSpec)

/-- ITS FALSE NEIGHBOUR: 'it returns false'. Refute it at one input. -/
def reconstructLinearWrong : ChangeSpec := { name := "reconstructLinear", fn := fun _ => fun
  | [d1, d2] => { results := [.lit (.bool false)], args := [d1, d2] }
  | _ => none }
def ReconstructLinearWrongFalsely : Prop := reconstructLinearRow.holds Tryd.pinned (OpenSpec.ofChange reconstructLinearWrong)

/-- 'privitylaw20.ReconstructRepeatable': WHATEVER THE INPUT: true; the input reads as it did. -/
def reconstructRepeatableSpec : ChangeSpec := { name := "reconstructRepeatable", fn := fun _ => fun
  | [d] => { results := [.lit (.bool true)], args := [d] }
  | _ => none }
def reconstructRepeatableRow : OpenClaim := { program := "ytclhpomlfadohaadoor", sum := "19ba93f83c6233f8d753d0aa6f46e7fd3e525ba15983e10adfda7fee9431f942", func := "privity/privitylaw20.ReconstructRepeatable", spec := "reconstructRepeatable", inPlace := ["math/bits.Add64"], unfollowed := true, recurses := true, named := ["privity/field.exps"], apart := false, laid := [("privity/field.exps", laid_privity_field_exps)] }
def ReconstructRepeatableSaid : Prop := reconstructRepeatableRow.holds Tryd.pinned (OpenSpec.ofChange reconstructRepeatableSpec)

/-- ITS FALSE NEIGHBOUR: 'it returns false'. Refute it at one input. -/
def reconstructRepeatableWrong : ChangeSpec := { name := "reconstructRepeatable", fn := fun _ => fun
  | [d] => { results := [.lit (.bool false)], args := [d] }
  | _ => none }
def ReconstructRepeatableWrongFalsely : Prop := reconstructRepeatableRow.holds Tryd.pinned (OpenSpec.ofChange reconstructRepeatableWrong)

/-- 'privitylaw20.ReconstructDetection': WHATEVER THE INPUT: true; the input reads as it did. -/
def reconstructDetectionSpec : ChangeSpec := { name := "reconstructDetection", fn := fun _ => fun
  | [d] => { results := [.lit (.bool true)], args := [d] }
  | _ => none }
def reconstructDetectionRow : OpenClaim := { program := "ytclhpomlfadohaadoor", sum := "19ba93f83c6233f8d753d0aa6f46e7fd3e525ba15983e10adfda7fee9431f942", func := "privity/privitylaw20.ReconstructDetection", spec := "reconstructDetection", inPlace := ["math/bits.Add64"], unfollowed := true, recurses := true, named := ["privity/field.exps"], apart := false, laid := [("privity/field.exps", laid_privity_field_exps)] }
def ReconstructDetectionSaid : Prop := reconstructDetectionRow.holds Tryd.pinned (OpenSpec.ofChange reconstructDetectionSpec)

/-- ITS FALSE NEIGHBOUR: 'it returns false'. Refute it at one input. -/
def reconstructDetectionWrong : ChangeSpec := { name := "reconstructDetection", fn := fun _ => fun
  | [d] => { results := [.lit (.bool false)], args := [d] }
  | _ => none }
def ReconstructDetectionWrongFalsely : Prop := reconstructDetectionRow.holds Tryd.pinned (OpenSpec.ofChange reconstructDetectionWrong)

/-- 'privitylaw20.ReconstructRowsRobust': WHATEVER THE INPUT: true; the input reads as it did. -/
def reconstructRowsRobustSpec : ChangeSpec := { name := "reconstructRowsRobust", fn := fun _ => fun
  | [d1, d2, d3] => { results := [.lit (.bool true)], args := [d1, d2, d3] }
  | _ => none }
def reconstructRowsRobustRow : OpenClaim := { program := "ytclhpomlfadohaadoor", sum := "19ba93f83c6233f8d753d0aa6f46e7fd3e525ba15983e10adfda7fee9431f942", func := "privity/privitylaw20.ReconstructRowsRobust", spec := "reconstructRowsRobust", inPlace := ["math/bits.Add64"], unfollowed := true, recurses := true, named := ["privity/field.exps"], apart := false, laid := [("privity/field.exps", laid_privity_field_exps)] }
def ReconstructRowsRobustSaid : Prop := reconstructRowsRobustRow.holds Tryd.pinned (OpenSpec.ofChange reconstructRowsRobustSpec)

/-- ITS FALSE NEIGHBOUR: 'it returns false'. Refute it at one input. -/
def reconstructRowsRobustWrong : ChangeSpec := { name := "reconstructRowsRobust", fn := fun _ => fun
  | [d1, d2, d3] => { results := [.lit (.bool false)], args := [d1, d2, d3] }
  | _ => none }
def ReconstructRowsRobustWrongFalsely : Prop := reconstructRowsRobustRow.holds Tryd.pinned (OpenSpec.ofChange reconstructRowsRobustWrong)

/-- 'privitylaw20.ReconstructNothing': WHATEVER THE INPUT: true; the input reads as it did. -/
def reconstructNothingSpec : ChangeSpec := { name := "reconstructNothing", fn := fun _ => fun
  | [d] => { results := [.lit (.bool true)], args := [d] }
  | _ => none }
def reconstructNothingRow : OpenClaim := { program := "ytclhpomlfadohaadoor", sum := "19ba93f83c6233f8d753d0aa6f46e7fd3e525ba15983e10adfda7fee9431f942", func := "privity/privitylaw20.ReconstructNothing", spec := "reconstructNothing", inPlace := ["math/bits.Add64"], unfollowed := true, recurses := true, named := ["privity/field.exps"], apart := false, laid := [("privity/field.exps", laid_privity_field_exps)] }
def ReconstructNothingSaid : Prop := reconstructNothingRow.holds Tryd.pinned (OpenSpec.ofChange reconstructNothingSpec)

/-- ITS FALSE NEIGHBOUR: 'it returns false'. Refute it at one input. -/
def reconstructNothingWrong : ChangeSpec := { name := "reconstructNothing", fn := fun _ => fun
  | [d] => { results := [.lit (.bool false)], args := [d] }
  | _ => none }
def ReconstructNothingWrongFalsely : Prop := reconstructNothingRow.holds Tryd.pinned (OpenSpec.ofChange reconstructNothingWrong)

/-- 'privitylaw25.TriplestoreTakeMatchesReference': WHATEVER THE INPUT: true; the input reads as it did. -/
def triplestoreTakeMatchesReferenceSpec : ChangeSpec := { name := "triplestoreTakeMatchesReference", fn := fun _ => fun
  | [d1, d2] => { results := [.lit (.bool true)], args := [d1, d2] }
  | _ => none }
def triplestoreTakeMatchesReferenceRow : OpenClaim := { program := "ytclhpomlfadohaadoor", sum := "19ba93f83c6233f8d753d0aa6f46e7fd3e525ba15983e10adfda7fee9431f942", func := "privity/privitylaw25.TriplestoreTakeMatchesReference", spec := "triplestoreTakeMatchesReference", inPlace := ["math/bits.Add64"], unfollowed := true, recurses := true, named := ["privity/field.exps"], apart := false, laid := [("privity/field.exps", laid_privity_field_exps)] }
def TriplestoreTakeMatchesReferenceSaid : Prop := triplestoreTakeMatchesReferenceRow.holds Tryd.pinned (OpenSpec.ofChange triplestoreTakeMatchesReferenceSpec)

/-- ITS FALSE NEIGHBOUR: 'it returns false'. Refute it at one input. -/
def triplestoreTakeMatchesReferenceWrong : ChangeSpec := { name := "triplestoreTakeMatchesReference", fn := fun _ => fun
  | [d1, d2] => { results := [.lit (.bool false)], args := [d1, d2] }
  | _ => none }
def TriplestoreTakeMatchesReferenceWrongFalsely : Prop := triplestoreTakeMatchesReferenceRow.holds Tryd.pinned (OpenSpec.ofChange triplestoreTakeMatchesReferenceWrong)

/-- 'privitylaw25.TriplestoreHandsOutOnce': WHATEVER THE INPUT: true; the input reads as it did. -/
def triplestoreHandsOutOnceSpec : ChangeSpec := { name := "triplestoreHandsOutOnce", fn := fun _ => fun
  | [d1, d2] => { results := [.lit (.bool true)], args := [d1, d2] }
  | _ => none }
def triplestoreHandsOutOnceRow : OpenClaim := { program := "ytclhpomlfadohaadoor", sum := "19ba93f83c6233f8d753d0aa6f46e7fd3e525ba15983e10adfda7fee9431f942", func := "privity/privitylaw25.TriplestoreHandsOutOnce", spec := "triplestoreHandsOutOnce", inPlace := ["math/bits.Add64"], unfollowed := true, recurses := true, named := ["privity/field.exps"], apart := false, laid := [("privity/field.exps", laid_privity_field_exps)] }
def TriplestoreHandsOutOnceSaid : Prop := triplestoreHandsOutOnceRow.holds Tryd.pinned (OpenSpec.ofChange triplestoreHandsOutOnceSpec)

/-- ITS FALSE NEIGHBOUR: 'it returns false'. Refute it at one input. -/
def triplestoreHandsOutOnceWrong : ChangeSpec := { name := "triplestoreHandsOutOnce", fn := fun _ => fun
  | [d1, d2] => { results := [.lit (.bool false)], args := [d1, d2] }
  | _ => none }
def TriplestoreHandsOutOnceWrongFalsely : Prop := triplestoreHandsOutOnceRow.holds Tryd.pinned (OpenSpec.ofChange triplestoreHandsOutOnceWrong)

/-- 'privitylaw25.TriplestoreTakeIsAdditive': WHATEVER THE INPUT: true; the input reads as it did. -/
def triplestoreTakeIsAdditiveSpec : ChangeSpec := { name := "triplestoreTakeIsAdditive", fn := fun _ => fun
  | [d1, d2, d3] => { results := [.lit (.bool true)], args := [d1, d2, d3] }
  | _ => none }
def triplestoreTakeIsAdditiveRow : OpenClaim := { program := "ytclhpomlfadohaadoor", sum := "19ba93f83c6233f8d753d0aa6f46e7fd3e525ba15983e10adfda7fee9431f942", func := "privity/privitylaw25.TriplestoreTakeIsAdditive", spec := "triplestoreTakeIsAdditive", inPlace := ["math/bits.Add64"], unfollowed := true, recurses := true, named := ["privity/field.exps"], apart := false, laid := [("privity/field.exps", laid_privity_field_exps)] }
def TriplestoreTakeIsAdditiveSaid : Prop := triplestoreTakeIsAdditiveRow.holds Tryd.pinned (OpenSpec.ofChange triplestoreTakeIsAdditiveSpec)

/-- ITS FALSE NEIGHBOUR: 'it returns false'. Refute it at one input. -/
def triplestoreTakeIsAdditiveWrong : ChangeSpec := { name := "triplestoreTakeIsAdditive", fn := fun _ => fun
  | [d1, d2, d3] => { results := [.lit (.bool false)], args := [d1, d2, d3] }
  | _ => none }
def TriplestoreTakeIsAdditiveWrongFalsely : Prop := triplestoreTakeIsAdditiveRow.holds Tryd.pinned (OpenSpec.ofChange triplestoreTakeIsAdditiveWrong)

/-- 'privitylaw25.TriplestoreVerifyAgreement': WHATEVER THE INPUT: true; the input reads as it did. -/
def triplestoreVerifyAgreementSpec : ChangeSpec := { name := "triplestoreVerifyAgreement", fn := fun _ => fun
  | [d] => { results := [.lit (.bool true)], args := [d] }
  | _ => none }
def triplestoreVerifyAgreementRow : OpenClaim := { program := "ytclhpomlfadohaadoor", sum := "19ba93f83c6233f8d753d0aa6f46e7fd3e525ba15983e10adfda7fee9431f942", func := "privity/privitylaw25.TriplestoreVerifyAgreement", spec := "triplestoreVerifyAgreement", inPlace := ["math/bits.Add64"], unfollowed := true, recurses := true, named := ["privity/field.exps"], apart := false, laid := [("privity/field.exps", laid_privity_field_exps)] }
def TriplestoreVerifyAgreementSaid : Prop := triplestoreVerifyAgreementRow.holds Tryd.pinned (OpenSpec.ofChange triplestoreVerifyAgreementSpec)

/-- ITS FALSE NEIGHBOUR: 'it returns false'. Refute it at one input. -/
def triplestoreVerifyAgreementWrong : ChangeSpec := { name := "triplestoreVerifyAgreement", fn := fun _ => fun
  | [d] => { results := [.lit (.bool false)], args := [d] }
  | _ => none }
def TriplestoreVerifyAgreementWrongFalsely : Prop := triplestoreVerifyAgreementRow.holds Tryd.pinned (OpenSpec.ofChange triplestoreVerifyAgreementWrong)

/-- 'privitylaw25.TriplestoreVerifyIsSound': WHATEVER THE INPUT: true; the input reads as it did. -/
def triplestoreVerifyIsSoundSpec : ChangeSpec := { name := "triplestoreVerifyIsSound", fn := fun _ => fun
  | [d] => { results := [.lit (.bool true)], args := [d] }
  | _ => none }
def triplestoreVerifyIsSoundRow : OpenClaim := { program := "ytclhpomlfadohaadoor", sum := "19ba93f83c6233f8d753d0aa6f46e7fd3e525ba15983e10adfda7fee9431f942", func := "privity/privitylaw25.TriplestoreVerifyIsSound", spec := "triplestoreVerifyIsSound", inPlace := ["math/bits.Add64"], unfollowed := true, recurses := true, named := ["privity/field.exps"], apart := false, laid := [("privity/field.exps", laid_privity_field_exps)] }
def TriplestoreVerifyIsSoundSaid : Prop := triplestoreVerifyIsSoundRow.holds Tryd.pinned (OpenSpec.ofChange triplestoreVerifyIsSoundSpec)

/-- ITS FALSE NEIGHBOUR: 'it returns false'. Refute it at one input. -/
def triplestoreVerifyIsSoundWrong : ChangeSpec := { name := "triplestoreVerifyIsSound", fn := fun _ => fun
  | [d] => { results := [.lit (.bool false)], args := [d] }
  | _ => none }
def TriplestoreVerifyIsSoundWrongFalsely : Prop := triplestoreVerifyIsSoundRow.holds Tryd.pinned (OpenSpec.ofChange triplestoreVerifyIsSoundWrong)

/-- 'privitylaw25.TriplestoreVerifyScaled': WHATEVER THE INPUT: true; the input reads as it did. -/
def triplestoreVerifyScaledSpec : ChangeSpec := { name := "triplestoreVerifyScaled", fn := fun _ => fun
  | [d1, d2] => { results := [.lit (.bool true)], args := [d1, d2] }
  | _ => none }
def triplestoreVerifyScaledRow : OpenClaim := { program := "ytclhpomlfadohaadoor", sum := "19ba93f83c6233f8d753d0aa6f46e7fd3e525ba15983e10adfda7fee9431f942", func := "privity/privitylaw25.TriplestoreVerifyScaled", spec := "triplestoreVerifyScaled", inPlace := ["math/bits.Add64"], unfollowed := true, recurses := true, named := ["privity/field.exps"], apart := false, laid := [("privity/field.exps", laid_privity_field_exps)] }
def TriplestoreVerifyScaledSaid : Prop := triplestoreVerifyScaledRow.holds Tryd.pinned (OpenSpec.ofChange triplestoreVerifyScaledSpec)

/-- ITS FALSE NEIGHBOUR: 'it returns false'. Refute it at one input. -/
def triplestoreVerifyScaledWrong : ChangeSpec := { name := "triplestoreVerifyScaled", fn := fun _ => fun
  | [d1, d2] => { results := [.lit (.bool false)], args := [d1, d2] }
  | _ => none }
def TriplestoreVerifyScaledWrongFalsely : Prop := triplestoreVerifyScaledRow.holds Tryd.pinned (OpenSpec.ofChange triplestoreVerifyScaledWrong)

/- THE SECOND FORM. 'bulk': how many values and letters a reading holds, each counted each time it is reached (what is shared counts as often as it is met; a slice's spare places count too). A statement '..UptoSaid' is the law's where the arguments, and the package variables that the reading takes, are together of bulk at most 1048576: NARROWER than '..Said'. Prove '..Said' where nothing that the law and all that it calls make is longer than what came in: it says more and counts as full. Else prove '..UptoSaid'. A law counts once. -/
mutual
def uptoBulk {H : Type} : DataW H → Nat
  | .lit (.string bytes) => bytes.length + 1
  | .lit _ => 1
  | .nil => 1
  | .ptr d => uptoBulk d + 1
  | .slice elems spare => uptoBulkAll elems + uptoBulkAll spare + 1
  | .agg parts => uptoBulkAll parts + 1
  | .iface _ d => uptoBulk d + 1
  | .map entries => uptoBulkEntries entries + 1
  | .held _ => 1
def uptoBulkAll {H : Type} : List (DataW H) → Nat
  | [] => 0
  | d :: r => uptoBulk d + uptoBulkAll r
def uptoBulkEntries {H : Type} : List (Lit × DataW H) → Nat
  | [] => 0
  | x :: r => uptoBulkEntry x + uptoBulkEntries r
def uptoBulkEntry {H : Type} : Lit × DataW H → Nat
  | (.string bytes, d) => bytes.length + uptoBulk d + 1
  | (_, d) => uptoBulk d + 1
 end
def uptoSmall : (H : Type) → List (DataW H) → Bool := fun _ ds => decide (uptoBulkAll ds ≤ 1048576)
def OpenSpec.upto (s : _root_.Go.ChangeSpec) : _root_.Go.OpenSpec := { _root_.Go.OpenSpec.ofChange s with cond := some uptoSmall }

/-- 'privitylaw47.RecoveryCorrect', WHERE WHAT IT READS IS OF BULK AT MOST 1048576: true; the input reads as it did. -/
def recoveryCorrectUptoRow : OpenClaim := { program := "ytclhpomlfadohaadoor", sum := "19ba93f83c6233f8d753d0aa6f46e7fd3e525ba15983e10adfda7fee9431f942", func := "privity/privitylaw47.RecoveryCorrect", spec := "recoveryCorrect", inPlace := ["math/bits.Add64"], unfollowed := true, recurses := true, named := ["privity/field.exps"], apart := false, laid := [("privity/field.exps", laid_privity_field_exps)], narrowed := true }
def RecoveryCorrectUptoSaid : Prop := recoveryCorrectUptoRow.holds Tryd.pinned (OpenSpec.upto recoveryCorrectSpec)

/-- 'privitylaw47.RecoveryMessages', WHERE WHAT IT READS IS OF BULK AT MOST 1048576: true; the input reads as it did. -/
def recoveryMessagesUptoRow : OpenClaim := { program := "ytclhpomlfadohaadoor", sum := "19ba93f83c6233f8d753d0aa6f46e7fd3e525ba15983e10adfda7fee9431f942", func := "privity/privitylaw47.RecoveryMessages", spec := "recoveryMessages", inPlace := ["math/bits.Add64"], unfollowed := true, recurses := true, named := ["privity/field.exps"], apart := false, laid := [("privity/field.exps", laid_privity_field_exps)], narrowed := true }
def RecoveryMessagesUptoSaid : Prop := recoveryMessagesUptoRow.holds Tryd.pinned (OpenSpec.upto recoveryMessagesSpec)

/-- 'privitylaw47.RecoveryPrivacy', WHERE WHAT IT READS IS OF BULK AT MOST 1048576: true; the input reads as it did. -/
def recoveryPrivacyUptoRow : OpenClaim := { program := "ytclhpomlfadohaadoor", sum := "19ba93f83c6233f8d753d0aa6f46e7fd3e525ba15983e10adfda7fee9431f942", func := "privity/privitylaw47.RecoveryPrivacy", spec := "recoveryPrivacy", inPlace := ["math/bits.Add64"], unfollowed := true, recurses := true, named := ["privity/field.exps"], apart := false, laid := [("privity/field.exps", laid_privity_field_exps)], narrowed := true }
def RecoveryPrivacyUptoSaid : Prop := recoveryPrivacyUptoRow.holds Tryd.pinned (OpenSpec.upto recoveryPrivacySpec)

/-- 'privitylaw47.RecoveryIgnoresOwnRow', WHERE WHAT IT READS IS OF BULK AT MOST 1048576: true; the input reads as it did. -/
def recoveryIgnoresOwnRowUptoRow : OpenClaim := { program := "ytclhpomlfadohaadoor", sum := "19ba93f83c6233f8d753d0aa6f46e7fd3e525ba15983e10adfda7fee9431f942", func := "privity/privitylaw47.RecoveryIgnoresOwnRow", spec := "recoveryIgnoresOwnRow", inPlace := ["math/bits.Add64"], unfollowed := true, recurses := true, named := ["privity/field.exps"], apart := false, laid := [("privity/field.exps", laid_privity_field_exps)], narrowed := true }
def RecoveryIgnoresOwnRowUptoSaid : Prop := recoveryIgnoresOwnRowUptoRow.holds Tryd.pinned (OpenSpec.upto recoveryIgnoresOwnRowSpec)

/-- 'privitylaw47.RecoveryLinear', WHERE WHAT IT READS IS OF BULK AT MOST 1048576: true; the input reads as it did. -/
def recoveryLinearUptoRow : OpenClaim := { program := "ytclhpomlfadohaadoor", sum := "19ba93f83c6233f8d753d0aa6f46e7fd3e525ba15983e10adfda7fee9431f942", func := "privity/privitylaw47.RecoveryLinear", spec := "recoveryLinear", inPlace := ["math/bits.Add64"], unfollowed := true, recurses := true, named := ["privity/field.exps"], apart := false, laid := [("privity/field.exps", laid_privity_field_exps)], narrowed := true }
def RecoveryLinearUptoSaid : Prop := recoveryLinearUptoRow.holds Tryd.pinned (OpenSpec.upto recoveryLinearSpec)

/-- 'privitylaw20.ReconstructRobust', WHERE WHAT IT READS IS OF BULK AT MOST 1048576: true; the input reads as it did. -/
def reconstructRobustUptoRow : OpenClaim := { program := "ytclhpomlfadohaadoor", sum := "19ba93f83c6233f8d753d0aa6f46e7fd3e525ba15983e10adfda7fee9431f942", func := "privity/privitylaw20.ReconstructRobust", spec := "reconstructRobust", inPlace := ["math/bits.Add64"], unfollowed := true, recurses := true, named := ["privity/field.exps"], apart := false, laid := [("privity/field.exps", laid_privity_field_exps)], narrowed := true }
def ReconstructRobustUptoSaid : Prop := reconstructRobustUptoRow.holds Tryd.pinned (OpenSpec.upto reconstructRobustSpec)

/-- 'privitylaw20.ReconstructLinear', WHERE WHAT IT READS IS OF BULK AT MOST 1048576: true; the input reads as it did. -/
def reconstructLinearUptoRow : OpenClaim := { program := "ytclhpomlfadohaadoor", sum := "19ba93f83c6233f8d753d0aa6f46e7fd3e525ba15983e10adfda7fee9431f942", func := "privity/privitylaw20.ReconstructLinear", spec := "reconstructLinear", inPlace := ["math/bits.Add64"], unfollowed := true, recurses := true, named := ["privity/field.exps"], apart := false, laid := [("privity/field.exps", laid_privity_field_exps)], narrowed := true }
def ReconstructLinearUptoSaid : Prop := reconstructLinearUptoRow.holds Tryd.pinned (OpenSpec.upto reconstructLinearSpec)

/-- 'privitylaw20.ReconstructRepeatable', WHERE WHAT IT READS IS OF BULK AT MOST 1048576: true; the input reads as it did. -/
def reconstructRepeatableUptoRow : OpenClaim := { program := "ytclhpomlfadohaadoor", sum := "19ba93f83c6233f8d753d0aa6f46e7fd3e525ba15983e10adfda7fee9431f942", func := "privity/privitylaw20.ReconstructRepeatable", spec := "reconstructRepeatable", inPlace := ["math/bits.Add64"], unfollowed := true, recurses := true, named := ["privity/field.exps"], apart := false, laid := [("privity/field.exps", laid_privity_field_exps)], narrowed := true }
def ReconstructRepeatableUptoSaid : Prop := reconstructRepeatableUptoRow.holds Tryd.pinned (OpenSpec.upto reconstructRepeatableSpec)

/-- 'privitylaw20.ReconstructDetection', WHERE WHAT IT READS IS OF BULK AT MOST 1048576: true; the input reads as it did. -/
def reconstructDetectionUptoRow : OpenClaim := { program := "ytclhpomlfadohaadoor", sum := "19ba93f83c6233f8d753d0aa6f46e7fd3e525ba15983e10adfda7fee9431f942", func := "privity/privitylaw20.ReconstructDetection", spec := "reconstructDetection", inPlace := ["math/bits.Add64"], unfollowed := true, recurses := true, named := ["privity/field.exps"], apart := false, laid := [("privity/field.exps", laid_privity_field_exps)], narrowed := true }
def ReconstructDetectionUptoSaid : Prop := reconstructDetectionUptoRow.holds Tryd.pinned (OpenSpec.upto reconstructDetectionSpec)

/-- 'privitylaw20.ReconstructRowsRobust', WHERE WHAT IT READS IS OF BULK AT MOST 1048576: true; the input reads as it did. -/
def reconstructRowsRobustUptoRow : OpenClaim := { program := "ytclhpomlfadohaadoor", sum := "19ba93f83c6233f8d753d0aa6f46e7fd3e525ba15983e10adfda7fee9431f942", func := "privity/privitylaw20.ReconstructRowsRobust", spec := "reconstructRowsRobust", inPlace := ["math/bits.Add64"], unfollowed := true, recurses := true, named := ["privity/field.exps"], apart := false, laid := [("privity/field.exps", laid_privity_field_exps)], narrowed := true }
def ReconstructRowsRobustUptoSaid : Prop := reconstructRowsRobustUptoRow.holds Tryd.pinned (OpenSpec.upto reconstructRowsRobustSpec)

/-- 'privitylaw20.ReconstructNothing', WHERE WHAT IT READS IS OF BULK AT MOST 1048576: true; the input reads as it did. -/
def reconstructNothingUptoRow : OpenClaim := { program := "ytclhpomlfadohaadoor", sum := "19ba93f83c6233f8d753d0aa6f46e7fd3e525ba15983e10adfda7fee9431f942", func := "privity/privitylaw20.ReconstructNothing", spec := "reconstructNothing", inPlace := ["math/bits.Add64"], unfollowed := true, recurses := true, named := ["privity/field.exps"], apart := false, laid := [("privity/field.exps", laid_privity_field_exps)], narrowed := true }
def ReconstructNothingUptoSaid : Prop := reconstructNothingUptoRow.holds Tryd.pinned (OpenSpec.upto reconstructNothingSpec)

/-- 'privitylaw25.TriplestoreTakeMatchesReference', WHERE WHAT IT READS IS OF BULK AT MOST 1048576: true; the input reads as it did. -/
def triplestoreTakeMatchesReferenceUptoRow : OpenClaim := { program := "ytclhpomlfadohaadoor", sum := "19ba93f83c6233f8d753d0aa6f46e7fd3e525ba15983e10adfda7fee9431f942", func := "privity/privitylaw25.TriplestoreTakeMatchesReference", spec := "triplestoreTakeMatchesReference", inPlace := ["math/bits.Add64"], unfollowed := true, recurses := true, named := ["privity/field.exps"], apart := false, laid := [("privity/field.exps", laid_privity_field_exps)], narrowed := true }
def TriplestoreTakeMatchesReferenceUptoSaid : Prop := triplestoreTakeMatchesReferenceUptoRow.holds Tryd.pinned (OpenSpec.upto triplestoreTakeMatchesReferenceSpec)

/-- 'privitylaw25.TriplestoreHandsOutOnce', WHERE WHAT IT READS IS OF BULK AT MOST 1048576: true; the input reads as it did. -/
def triplestoreHandsOutOnceUptoRow : OpenClaim := { program := "ytclhpomlfadohaadoor", sum := "19ba93f83c6233f8d753d0aa6f46e7fd3e525ba15983e10adfda7fee9431f942", func := "privity/privitylaw25.TriplestoreHandsOutOnce", spec := "triplestoreHandsOutOnce", inPlace := ["math/bits.Add64"], unfollowed := true, recurses := true, named := ["privity/field.exps"], apart := false, laid := [("privity/field.exps", laid_privity_field_exps)], narrowed := true }
def TriplestoreHandsOutOnceUptoSaid : Prop := triplestoreHandsOutOnceUptoRow.holds Tryd.pinned (OpenSpec.upto triplestoreHandsOutOnceSpec)

/-- 'privitylaw25.TriplestoreTakeIsAdditive', WHERE WHAT IT READS IS OF BULK AT MOST 1048576: true; the input reads as it did. -/
def triplestoreTakeIsAdditiveUptoRow : OpenClaim := { program := "ytclhpomlfadohaadoor", sum := "19ba93f83c6233f8d753d0aa6f46e7fd3e525ba15983e10adfda7fee9431f942", func := "privity/privitylaw25.TriplestoreTakeIsAdditive", spec := "triplestoreTakeIsAdditive", inPlace := ["math/bits.Add64"], unfollowed := true, recurses := true, named := ["privity/field.exps"], apart := false, laid := [("privity/field.exps", laid_privity_field_exps)], narrowed := true }
def TriplestoreTakeIsAdditiveUptoSaid : Prop := triplestoreTakeIsAdditiveUptoRow.holds Tryd.pinned (OpenSpec.upto triplestoreTakeIsAdditiveSpec)

/-- 'privitylaw25.TriplestoreVerifyAgreement', WHERE WHAT IT READS IS OF BULK AT MOST 1048576: true; the input reads as it did. -/
def triplestoreVerifyAgreementUptoRow : OpenClaim := { program := "ytclhpomlfadohaadoor", sum := "19ba93f83c6233f8d753d0aa6f46e7fd3e525ba15983e10adfda7fee9431f942", func := "privity/privitylaw25.TriplestoreVerifyAgreement", spec := "triplestoreVerifyAgreement", inPlace := ["math/bits.Add64"], unfollowed := true, recurses := true, named := ["privity/field.exps"], apart := false, laid := [("privity/field.exps", laid_privity_field_exps)], narrowed := true }
def TriplestoreVerifyAgreementUptoSaid : Prop := triplestoreVerifyAgreementUptoRow.holds Tryd.pinned (OpenSpec.upto triplestoreVerifyAgreementSpec)

/-- 'privitylaw25.TriplestoreVerifyIsSound', WHERE WHAT IT READS IS OF BULK AT MOST 1048576: true; the input reads as it did. -/
def triplestoreVerifyIsSoundUptoRow : OpenClaim := { program := "ytclhpomlfadohaadoor", sum := "19ba93f83c6233f8d753d0aa6f46e7fd3e525ba15983e10adfda7fee9431f942", func := "privity/privitylaw25.TriplestoreVerifyIsSound", spec := "triplestoreVerifyIsSound", inPlace := ["math/bits.Add64"], unfollowed := true, recurses := true, named := ["privity/field.exps"], apart := false, laid := [("privity/field.exps", laid_privity_field_exps)], narrowed := true }
def TriplestoreVerifyIsSoundUptoSaid : Prop := triplestoreVerifyIsSoundUptoRow.holds Tryd.pinned (OpenSpec.upto triplestoreVerifyIsSoundSpec)

/-- 'privitylaw25.TriplestoreVerifyScaled', WHERE WHAT IT READS IS OF BULK AT MOST 1048576: true; the input reads as it did. -/
def triplestoreVerifyScaledUptoRow : OpenClaim := { program := "ytclhpomlfadohaadoor", sum := "19ba93f83c6233f8d753d0aa6f46e7fd3e525ba15983e10adfda7fee9431f942", func := "privity/privitylaw25.TriplestoreVerifyScaled", spec := "triplestoreVerifyScaled", inPlace := ["math/bits.Add64"], unfollowed := true, recurses := true, named := ["privity/field.exps"], apart := false, laid := [("privity/field.exps", laid_privity_field_exps)], narrowed := true }
def TriplestoreVerifyScaledUptoSaid : Prop := triplestoreVerifyScaledUptoRow.holds Tryd.pinned (OpenSpec.upto triplestoreVerifyScaledSpec)

end Rows
end Go.Proofs.YtclhpomlfadohaaDoor
