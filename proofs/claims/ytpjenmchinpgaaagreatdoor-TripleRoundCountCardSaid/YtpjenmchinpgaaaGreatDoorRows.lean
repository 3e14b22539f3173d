/-
  NARROWER THAN 'FOR EVERY INPUT', by the rows' own cells (each row's printed sentence says how): TripleProductsAreCorrect: laid · TripleHonestDealerNeverDisqualified: laid · TripleEnoughDealersRemain: laid · TripleTapeConsumption: laid · TripleRoundCount: laid · TripleFalseComplaints: laid · TripleHonestTriplesUnchanged: laid · TripleMatchesReference: laid.
  DERIVED. THE GIVEN ROWS OF THIS SEAT. 8 by the template 'for every input the law returns true; each argument reads behind the call as it read before'; 0 by the template 'total and deterministic' (their statements: YtpjenmchinpgaaaGreatDoorTotals.lean).
  GIVEN WITH THE SEED: the statements are not yours to turn. If you find one false, say at which input.
  Laid BY PROGRAM, IN A SANDBOX (cutbox-rows.mjs): the forced cells as the released guide's own fill.sh prints them over the translation d5ab36e48e1bd198… (all of the seat's roots in one cut). By AI agents, Wed Nov 11 2026. No macro, syntax, notation, axiom, sorry.
-/
import Derived.Test.YtpjenmchinpgaaaGreatDoorChecked
import GoSem.Claim
import GoSem.ClaimJoined
import GoSem.ClaimMapViews
import Derived.JoinedTies
import Derived.KernelRfl
namespace Go.Proofs.YtpjenmchinpgaaaGreatDoor
/- THE CELL 'sum', in the pinned program and in every row, IS THE sha256 OF THE DUMP (.gsa) THAT YtpjenmchinpgaaaGreatDoorProg.lean LOADS. Nothing in Lean hashes anything: it is a label: what it is worth is what the hold of that sum in a sandbox is worth. -/
noncomputable def Tryz.pinned : Pinned := { name := "ytpjenmchinpgaaagreatdoor", sum := "d5ab36e48e1bd19859bbaeea284fb46db8334fe8314b7b6b18523c9923b4c9fc", checked := Tryz.checked }
namespace Rows
def none {H : Type} : Left H := { results := [], args := [] }

/- WHAT THE LISTED PACKAGE-LEVEL VARIABLES READ AS WHEN THE CALL BEGINS. Each datum BY PROGRAM (the guide's laid-datum.mjs) off the statement by which the dump's own 'gosem.cut.vars' lays the variable. In a bare row this is a premise. The card (YtpjenmchinpgaaaGreatDoorCards.lean) ties it to the program's text. -/
def laid_privity_field_exps {H : Type} : DataW H := .agg [.lit (.int .i64 5), .lit (.int .i64 7), .lit (.int .i64 13), .lit (.int .i64 17), .lit (.int .i64 19), .lit (.int .i64 31), .lit (.int .i64 61)]

/-- 'privitylaw22.TripleProductsAreCorrect': WHATEVER THE INPUT: true; the input reads as it did. -/
def tripleProductsAreCorrectSpec : ChangeSpec := { name := "tripleProductsAreCorrect", fn := fun _ => fun
  | [d1, d2] => { results := [.lit (.bool true)], args := [d1, d2] }
  | _ => none }
def tripleProductsAreCorrectRow : OpenClaim := { program := "ytpjenmchinpgaaagreatdoor", sum := "d5ab36e48e1bd19859bbaeea284fb46db8334fe8314b7b6b18523c9923b4c9fc", func := "privity/privitylaw22.TripleProductsAreCorrect", spec := "tripleProductsAreCorrect", inPlace := ["math/bits.Add64"], unfollowed := true, recurses := true, named := ["privity/field.exps"], apart := false, laid := [("privity/field.exps", laid_privity_field_exps)] }
def TripleProductsAreCorrectSaid : Prop := tripleProductsAreCorrectRow.holds Tryz.pinned (OpenSpec.ofChange tripleProductsAreCorrectSpec)

/-- ITS FALSE NEIGHBOUR: 'it returns false'. Refute it at one input. -/
def tripleProductsAreCorrectWrong : ChangeSpec := { name := "tripleProductsAreCorrect", fn := fun _ => fun
  | [d1, d2] => { results := [.lit (.bool false)], args := [d1, d2] }
  | _ => none }
def TripleProductsAreCorrectWrongFalsely : Prop := tripleProductsAreCorrectRow.holds Tryz.pinned (OpenSpec.ofChange tripleProductsAreCorrectWrong)

/-- 'privitylaw22.TripleHonestDealerNeverDisqualified': WHATEVER THE INPUT: true; the input reads as it did. -/
def tripleHonestDealerNeverDisqualifiedSpec : ChangeSpec := { name := "tripleHonestDealerNeverDisqualified", fn := fun _ => fun
  | [d1, d2] => { results := [.lit (.bool true)], args := [d1, d2] }
  | _ => none }
def tripleHonestDealerNeverDisqualifiedRow : OpenClaim := { program := "ytpjenmchinpgaaagreatdoor", sum := "d5ab36e48e1bd19859bbaeea284fb46db8334fe8314b7b6b18523c9923b4c9fc", func := "privity/privitylaw22.TripleHonestDealerNeverDisqualified", spec := "tripleHonestDealerNeverDisqualified", inPlace := ["math/bits.Add64"], unfollowed := true, recurses := true, named := ["privity/field.exps"], apart := false, laid := [("privity/field.exps", laid_privity_field_exps)] }
def TripleHonestDealerNeverDisqualifiedSaid : Prop := tripleHonestDealerNeverDisqualifiedRow.holds Tryz.pinned (OpenSpec.ofChange tripleHonestDealerNeverDisqualifiedSpec)

/-- ITS FALSE NEIGHBOUR: 'it returns false'. Refute it at one input. -/
def tripleHonestDealerNeverDisqualifiedWrong : ChangeSpec := { name := "tripleHonestDealerNeverDisqualified", fn := fun _ => fun
  | [d1, d2] => { results := [.lit (.bool false)], args := [d1, d2] }
  | _ => none }
def TripleHonestDealerNeverDisqualifiedWrongFalsely : Prop := tripleHonestDealerNeverDisqualifiedRow.holds Tryz.pinned (OpenSpec.ofChange tripleHonestDealerNeverDisqualifiedWrong)

/-- 'privitylaw22.TripleEnoughDealersRemain': WHATEVER THE INPUT: true; the input reads as it did. -/
def tripleEnoughDealersRemainSpec : ChangeSpec := { name := "tripleEnoughDealersRemain", fn := fun _ => fun
  | [d1, d2] => { results := [.lit (.bool true)], args := [d1, d2] }
  | _ => none }
def tripleEnoughDealersRemainRow : OpenClaim := { program := "ytpjenmchinpgaaagreatdoor", sum := "d5ab36e48e1bd19859bbaeea284fb46db8334fe8314b7b6b18523c9923b4c9fc", func := "privity/privitylaw22.TripleEnoughDealersRemain", spec := "tripleEnoughDealersRemain", inPlace := ["math/bits.Add64"], unfollowed := true, recurses := true, named := ["privity/field.exps"], apart := false, laid := [("privity/field.exps", laid_privity_field_exps)] }
def TripleEnoughDealersRemainSaid : Prop := tripleEnoughDealersRemainRow.holds Tryz.pinned (OpenSpec.ofChange tripleEnoughDealersRemainSpec)

/-- ITS FALSE NEIGHBOUR: 'it returns false'. Refute it at one input. -/
def tripleEnoughDealersRemainWrong : ChangeSpec := { name := "tripleEnoughDealersRemain", fn := fun _ => fun
  | [d1, d2] => { results := [.lit (.bool false)], args := [d1, d2] }
  | _ => none }
def TripleEnoughDealersRemainWrongFalsely : Prop := tripleEnoughDealersRemainRow.holds Tryz.pinned (OpenSpec.ofChange tripleEnoughDealersRemainWrong)

/-- 'privitylaw22.TripleTapeConsumption': WHATEVER THE INPUT: true; the input reads as it did. -/
def tripleTapeConsumptionSpec : ChangeSpec := { name := "tripleTapeConsumption", fn := fun _ => fun
  | [d1, d2] => { results := [.lit (.bool true)], args := [d1, d2] }
  | _ => none }
def tripleTapeConsumptionRow : OpenClaim := { program := "ytpjenmchinpgaaagreatdoor", sum := "d5ab36e48e1bd19859bbaeea284fb46db8334fe8314b7b6b18523c9923b4c9fc", func := "privity/privitylaw22.TripleTapeConsumption", spec := "tripleTapeConsumption", inPlace := ["math/bits.Add64"], unfollowed := true, recurses := true, named := ["privity/field.exps"], apart := false, laid := [("privity/field.exps", laid_privity_field_exps)] }
def TripleTapeConsumptionSaid : Prop := tripleTapeConsumptionRow.holds Tryz.pinned (OpenSpec.ofChange tripleTapeConsumptionSpec)

/-- ITS FALSE NEIGHBOUR: 'it returns false'. Refute it at one input. -/
def tripleTapeConsumptionWrong : ChangeSpec := { name := "tripleTapeConsumption", fn := fun _ => fun
  | [d1, d2] => { results := [.lit (.bool false)], args := [d1, d2] }
  | _ => none }
def TripleTapeConsumptionWrongFalsely : Prop := tripleTapeConsumptionRow.holds Tryz.pinned (OpenSpec.ofChange tripleTapeConsumptionWrong)

/-- 'privitylaw22.TripleRoundCount': WHATEVER THE INPUT: true; the input reads as it did. -/
def tripleRoundCountSpec : ChangeSpec := { name := "tripleRoundCount", fn := fun _ => fun
  | [d1, d2] => { results := [.lit (.bool true)], args := [d1, d2] }
  | _ => none }
def tripleRoundCountRow : OpenClaim := { program := "ytpjenmchinpgaaagreatdoor", sum := "d5ab36e48e1bd19859bbaeea284fb46db8334fe8314b7b6b18523c9923b4c9fc", func := "privity/privitylaw22.TripleRoundCount", spec := "tripleRoundCount", inPlace := ["math/bits.Add64"], unfollowed := true, recurses := true, named := ["privity/field.exps"], apart := false, laid := [("privity/field.exps", laid_privity_field_exps)] }
def TripleRoundCountSaid : Prop := tripleRoundCountRow.holds Tryz.pinned (OpenSpec.ofChange tripleRoundCountSpec)

/-- ITS FALSE NEIGHBOUR: 'it returns false'. Refute it at one input. -/
def tripleRoundCountWrong : ChangeSpec := { name := "tripleRoundCount", fn := fun _ => fun
  | [d1, d2] => { results := [.lit (.bool false)], args := [d1, d2] }
  | _ => none }
def TripleRoundCountWrongFalsely : Prop := tripleRoundCountRow.holds Tryz.pinned (OpenSpec.ofChange tripleRoundCountWrong)

/-- 'privitylaw22.TripleFalseComplaints': WHATEVER THE INPUT: true; the input reads as it did. -/
def tripleFalseComplaintsSpec : ChangeSpec := { name := "tripleFalseComplaints", fn := fun _ => fun
  | [d1, d2] => { results := [.lit (.bool true)], args := [d1, d2] }
  | _ => none }
def tripleFalseComplaintsRow : OpenClaim := { program := "ytpjenmchinpgaaagreatdoor", sum := "d5ab36e48e1bd19859bbaeea284fb46db8334fe8314b7b6b18523c9923b4c9fc", func := "privity/privitylaw22.TripleFalseComplaints", spec := "tripleFalseComplaints", inPlace := ["math/bits.Add64"], unfollowed := true, recurses := true, named := ["privity/field.exps"], apart := false, laid := [("privity/field.exps", laid_privity_field_exps)] }
def TripleFalseComplaintsSaid : Prop := tripleFalseComplaintsRow.holds Tryz.pinned (OpenSpec.ofChange tripleFalseComplaintsSpec)

/-- ITS FALSE NEIGHBOUR: 'it returns false'. Refute it at one input. -/
def tripleFalseComplaintsWrong : ChangeSpec := { name := "tripleFalseComplaints", fn := fun _ => fun
  | [d1, d2] => { results := [.lit (.bool false)], args := [d1, d2] }
  | _ => none }
def TripleFalseComplaintsWrongFalsely : Prop := tripleFalseComplaintsRow.holds Tryz.pinned (OpenSpec.ofChange tripleFalseComplaintsWrong)

/-- 'privitylaw22.TripleHonestTriplesUnchanged': WHATEVER THE INPUT: true; the input reads as it did. -/
def tripleHonestTriplesUnchangedSpec : ChangeSpec := { name := "tripleHonestTriplesUnchanged", fn := fun _ => fun
  | [d1, d2] => { results := [.lit (.bool true)], args := [d1, d2] }
  | _ => none }
def tripleHonestTriplesUnchangedRow : OpenClaim := { program := "ytpjenmchinpgaaagreatdoor", sum := "d5ab36e48e1bd19859bbaeea284fb46db8334fe8314b7b6b18523c9923b4c9fc", func := "privity/privitylaw22.TripleHonestTriplesUnchanged", spec := "tripleHonestTriplesUnchanged", inPlace := ["math/bits.Add64"], unfollowed := true, recurses := true, named := ["privity/field.exps"], apart := false, laid := [("privity/field.exps", laid_privity_field_exps)] }
def TripleHonestTriplesUnchangedSaid : Prop := tripleHonestTriplesUnchangedRow.holds Tryz.pinned (OpenSpec.ofChange tripleHonestTriplesUnchangedSpec)

/-- ITS FALSE NEIGHBOUR: 'it returns false'. Refute it at one input. -/
def tripleHonestTriplesUnchangedWrong : ChangeSpec := { name := "tripleHonestTriplesUnchanged", fn := fun _ => fun
  | [d1, d2] => { results := [.lit (.bool false)], args := [d1, d2] }
  | _ => none }
def TripleHonestTriplesUnchangedWrongFalsely : Prop := tripleHonestTriplesUnchangedRow.holds Tryz.pinned (OpenSpec.ofChange tripleHonestTriplesUnchangedWrong)

/-- 'privitylaw22.TripleMatchesReference': WHATEVER THE INPUT: true; the input reads as it did. -/
def tripleMatchesReferenceSpec : ChangeSpec := { name := "tripleMatchesReference", fn := fun _ => fun
  | [d1, d2] => { results := [.lit (.bool true)], args := [d1, d2] }
  | _ => none }
def tripleMatchesReferenceRow : OpenClaim := { program := "ytpjenmchinpgaaagreatdoor", sum := "d5ab36e48e1bd19859bbaeea284fb46db8334fe8314b7b6b18523c9923b4c9fc", func := "privity/privitylaw22.TripleMatchesReference", spec := "tripleMatchesReference", inPlace := ["math/bits.Add64"], unfollowed := true, recurses := true, named := ["privity/field.exps"], apart := false, laid := [("privity/field.exps", laid_privity_field_exps)] }
def TripleMatchesReferenceSaid : Prop := tripleMatchesReferenceRow.holds Tryz.pinned (OpenSpec.ofChange tripleMatchesReferenceSpec)

/-- ITS FALSE NEIGHBOUR: 'it returns false'. Refute it at one input. -/
def tripleMatchesReferenceWrong : ChangeSpec := { name := "tripleMatchesReference", fn := fun _ => fun
  | [d1, d2] => { results := [.lit (.bool false)], args := [d1, d2] }
  | _ => none }
def TripleMatchesReferenceWrongFalsely : Prop := tripleMatchesReferenceRow.holds Tryz.pinned (OpenSpec.ofChange tripleMatchesReferenceWrong)

/- THE SECOND FORM. 'bulk': how many values and letters a reading holds, each counted each time it is reached (what is shared counts as often as it is met; a slice's spare places count too). A statement '..UptoSaid' is the law's where the arguments, and the package variables that the reading takes, are together of bulk at most 1048576: NARROWER than '..Said'. Prove '..Said' where nothing that the law and all that it calls make is longer than what came in: it says more and counts as full. Else prove '..UptoSaid'. A law counts once. -/
mutual
def uptoBulk {H : Type} : DataW H → Nat
  | .lit (.string bytes) => bytes.length + 1
  | .lit _ => 1
  | .nil => 1
  | .ptr d => uptoBulk d + 1
  | .slice elems spare => uptoBulkAll elems + uptoBulkAll spare + 1
  | .agg parts => uptoBulkAll parts + 1
  | .iface _ d => uptoBulk d + 1
  | .map entries => uptoBulkEntries entries + 1
  | .held _ => 1
def uptoBulkAll {H : Type} : List (DataW H) → Nat
  | [] => 0
  | d :: r => uptoBulk d + uptoBulkAll r
def uptoBulkEntries {H : Type} : List (Lit × DataW H) → Nat
  | [] => 0
  | x :: r => uptoBulkEntry x + uptoBulkEntries r
def uptoBulkEntry {H : Type} : Lit × DataW H → Nat
  | (.string bytes, d) => bytes.length + uptoBulk d + 1
  | (_, d) => uptoBulk d + 1
 end
def uptoSmall : (H : Type) → List (DataW H) → Bool := fun _ ds => decide (uptoBulkAll ds ≤ 1048576)
def OpenSpec.upto (s : _root_.Go.ChangeSpec) : _root_.Go.OpenSpec := { _root_.Go.OpenSpec.ofChange s with cond := some uptoSmall }

/-- 'privitylaw22.TripleProductsAreCorrect', WHERE WHAT IT READS IS OF BULK AT MOST 1048576: true; the input reads as it did. -/
def tripleProductsAreCorrectUptoRow : OpenClaim := { program := "ytpjenmchinpgaaagreatdoor", sum := "d5ab36e48e1bd19859bbaeea284fb46db8334fe8314b7b6b18523c9923b4c9fc", func := "privity/privitylaw22.TripleProductsAreCorrect", spec := "tripleProductsAreCorrect", inPlace := ["math/bits.Add64"], unfollowed := true, recurses := true, named := ["privity/field.exps"], apart := false, laid := [("privity/field.exps", laid_privity_field_exps)], narrowed := true }
def TripleProductsAreCorrectUptoSaid : Prop := tripleProductsAreCorrectUptoRow.holds Tryz.pinned (OpenSpec.upto tripleProductsAreCorrectSpec)

/-- 'privitylaw22.TripleHonestDealerNeverDisqualified', WHERE WHAT IT READS IS OF BULK AT MOST 1048576: true; the input reads as it did. -/
def tripleHonestDealerNeverDisqualifiedUptoRow : OpenClaim := { program := "ytpjenmchinpgaaagreatdoor", sum := "d5ab36e48e1bd19859bbaeea284fb46db8334fe8314b7b6b18523c9923b4c9fc", func := "privity/privitylaw22.TripleHonestDealerNeverDisqualified", spec := "tripleHonestDealerNeverDisqualified", inPlace := ["math/bits.Add64"], unfollowed := true, recurses := true, named := ["privity/field.exps"], apart := false, laid := [("privity/field.exps", laid_privity_field_exps)], narrowed := true }
def TripleHonestDealerNeverDisqualifiedUptoSaid : Prop := tripleHonestDealerNeverDisqualifiedUptoRow.holds Tryz.pinned (OpenSpec.upto tripleHonestDealerNeverDisqualifiedSpec)

/-- 'privitylaw22.TripleEnoughDealersRemain', WHERE WHAT IT READS IS OF BULK AT MOST 1048576: true; the input reads as it did. -/
def tripleEnoughDealersRemainUptoRow : OpenClaim := { program := "ytpjenmchinpgaaagreatdoor", sum := "d5ab36e48e1bd19859bbaeea284fb46db8334fe8314b7b6b18523c9923b4c9fc", func := "privity/privitylaw22.TripleEnoughDealersRemain", spec := "tripleEnoughDealersRemain", inPlace := ["math/bits.Add64"], unfollowed := true, recurses := true, named := ["privity/field.exps"], apart := false, laid := [("privity/field.exps", laid_privity_field_exps)], narrowed := true }
def TripleEnoughDealersRemainUptoSaid : Prop := tripleEnoughDealersRemainUptoRow.holds Tryz.pinned (OpenSpec.upto tripleEnoughDealersRemainSpec)

/-- 'privitylaw22.TripleTapeConsumption', WHERE WHAT IT READS IS OF BULK AT MOST 1048576: true; the input reads as it did. -/
def tripleTapeConsumptionUptoRow : OpenClaim := { program := "ytpjenmchinpgaaagreatdoor", sum := "d5ab36e48e1bd19859bbaeea284fb46db8334fe8314b7b6b18523c9923b4c9fc", func := "privity/privitylaw22.TripleTapeConsumption", spec := "tripleTapeConsumption", inPlace := ["math/bits.Add64"], unfollowed := true, recurses := true, named := ["privity/field.exps"], apart := false, laid := [("privity/field.exps", laid_privity_field_exps)], narrowed := true }
def TripleTapeConsumptionUptoSaid : Prop := tripleTapeConsumptionUptoRow.holds Tryz.pinned (OpenSpec.upto tripleTapeConsumptionSpec)

/-- 'privitylaw22.TripleRoundCount', WHERE WHAT IT READS IS OF BULK AT MOST 1048576: true; the input reads as it did. -/
def tripleRoundCountUptoRow : OpenClaim := { program := "ytpjenmchinpgaaagreatdoor", sum := "d5ab36e48e1bd19859bbaeea284fb46db8334fe8314b7b6b18523c9923b4c9fc", func := "privity/privitylaw22.TripleRoundCount", spec := "tripleRoundCount", inPlace := ["math/bits.Add64"], unfollowed := true, recurses := true, named := ["privity/field.exps"], apart := false, laid := [("privity/field.exps", laid_privity_field_exps)], narrowed := true }
def TripleRoundCountUptoSaid : Prop := tripleRoundCountUptoRow.holds Tryz.pinned (OpenSpec.upto tripleRoundCountSpec)

/-- 'privitylaw22.TripleFalseComplaints', WHERE WHAT IT READS IS OF BULK AT MOST 1048576: true; the input reads as it did. -/
def tripleFalseComplaintsUptoRow : OpenClaim := { program := "ytpjenmchinpgaaagreatdoor", sum := "d5ab36e48e1bd19859bbaeea284fb46db8334fe8314b7b6b18523c9923b4c9fc", func := "privity/privitylaw22.TripleFalseComplaints", spec := "tripleFalseComplaints", inPlace := ["math/bits.Add64"], unfollowed := true, recurses := true, named := ["privity/field.exps"], apart := false, laid := [("privity/field.exps", laid_privity_field_exps)], narrowed := true }
def TripleFalseComplaintsUptoSaid : Prop := tripleFalseComplaintsUptoRow.holds Tryz.pinned (OpenSpec.upto tripleFalseComplaintsSpec)

/-- 'privitylaw22.TripleHonestTriplesUnchanged', WHERE WHAT IT READS IS OF BULK AT MOST 1048576: true; the input reads as it did. -/
def tripleHonestTriplesUnchangedUptoRow : OpenClaim := { program := "ytpjenmchinpgaaagreatdoor", sum := "d5ab36e48e1bd19859bbaeea284fb46db8334fe8314b7b6b18523c9923b4c9fc", func := "privity/privitylaw22.TripleHonestTriplesUnchanged", spec := "tripleHonestTriplesUnchanged", inPlace := ["math/bits.Add64"], unfollowed := true, recurses := true, named := ["privity/field.exps"], apart := false, laid := [("privity/field.exps", laid_privity_field_exps)], narrowed := true }
def TripleHonestTriplesUnchangedUptoSaid : Prop := tripleHonestTriplesUnchangedUptoRow.holds Tryz.pinned (OpenSpec.upto tripleHonestTriplesUnchangedSpec)

/-- 'privitylaw22.TripleMatchesReference', WHERE WHAT IT READS IS OF BULK AT MOST 1048576: true; the input reads as it did. -/
def tripleMatchesReferenceUptoRow : OpenClaim := { program := "ytpjenmchinpgaaagreatdoor", sum := "d5ab36e48e1bd19859bbaeea284fb46db8334fe8314b7b6b18523c9923b4c9fc", func := "privity/privitylaw22.TripleMatchesReference", spec := "tripleMatchesReference", inPlace := ["math/bits.Add64"], unfollowed := true, recurses := true, named := ["privity/field.exps"], apart := false, laid := [("privity/field.exps", laid_privity_field_exps)], narrowed := true }
def TripleMatchesReferenceUptoSaid : Prop := tripleMatchesReferenceUptoRow.holds Tryz.pinned (OpenSpec.upto tripleMatchesReferenceSpec)

end Rows
end Go.Proofs.YtpjenmchinpgaaaGreatDoor
