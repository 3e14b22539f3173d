/-
  NARROWER THAN 'FOR EVERY INPUT', by the rows' own cells (each row's printed sentence says how): RandomnessConsistent: laid · RandomnessAllValuesReachable: laid · RandomnessSharings: laid · RandomnessSecrecy: laid · RandomnessBits: laid · RandomnessBitSecrecy: laid · RandomnessExtractorInvertible: laid.
  DERIVED. THE GIVEN ROWS OF THIS SEAT. 7 by the template 'for every input the law returns true; each argument reads behind the call as it read before'; 0 by the template 'total and deterministic' (their statements: YtkmbblnepjofaaaGreatDoorTotals.lean).
  GIVEN WITH THE SEED: the statements are not yours to turn. If you find one false, say at which input.
  Laid BY PROGRAM, IN A SANDBOX (cutbox-rows.mjs): the forced cells as the released guide's own fill.sh prints them over the translation eca050ed0f1ce7a5… (all of the seat's roots in one cut). By AI agents, Wed Nov 11 2026. No macro, syntax, notation, axiom, sorry.
-/
import Derived.Test.YtkmbblnepjofaaaGreatDoorChecked
import GoSem.Claim
import GoSem.ClaimJoined
import GoSem.ClaimMapViews
import Derived.JoinedTies
import Derived.KernelRfl
namespace Go.Proofs.YtkmbblnepjofaaaGreatDoor
/- THE CELL 'sum', in the pinned program and in every row, IS THE sha256 OF THE DUMP (.gsa) THAT YtkmbblnepjofaaaGreatDoorProg.lean LOADS. Nothing in Lean hashes anything: it is a label: what it is worth is what the hold of that sum in a sandbox is worth. -/
noncomputable def Tryz.pinned : Pinned := { name := "ytkmbblnepjofaaagreatdoor", sum := "eca050ed0f1ce7a5ae79ab55c2407d93854bad4d943345d8b5a61f31499a7340", checked := Tryz.checked }
namespace Rows
def none {H : Type} : Left H := { results := [], args := [] }

/- WHAT THE LISTED PACKAGE-LEVEL VARIABLES READ AS WHEN THE CALL BEGINS. Each datum BY PROGRAM (the guide's laid-datum.mjs) off the statement by which the dump's own 'gosem.cut.vars' lays the variable. In a bare row this is a premise. The card (YtkmbblnepjofaaaGreatDoorCards.lean) ties it to the program's text. -/
def laid_privity_field_exps {H : Type} : DataW H := .agg [.lit (.int .i64 5), .lit (.int .i64 7), .lit (.int .i64 13), .lit (.int .i64 17), .lit (.int .i64 19), .lit (.int .i64 31), .lit (.int .i64 61)]

/-- 'privitylaw24.RandomnessConsistent': WHATEVER THE INPUT: true; the input reads as it did. -/
def randomnessConsistentSpec : ChangeSpec := { name := "randomnessConsistent", fn := fun _ => fun
  | [d1, d2] => { results := [.lit (.bool true)], args := [d1, d2] }
  | _ => none }
def randomnessConsistentRow : OpenClaim := { program := "ytkmbblnepjofaaagreatdoor", sum := "eca050ed0f1ce7a5ae79ab55c2407d93854bad4d943345d8b5a61f31499a7340", func := "privity/privitylaw24.RandomnessConsistent", spec := "randomnessConsistent", inPlace := ["math/bits.Add64"], unfollowed := true, recurses := true, named := ["privity/field.exps"], apart := false, laid := [("privity/field.exps", laid_privity_field_exps)] }
def RandomnessConsistentSaid : Prop := randomnessConsistentRow.holds Tryz.pinned (OpenSpec.ofChange randomnessConsistentSpec)

/-- ITS FALSE NEIGHBOUR: 'it returns false'. Refute it at one input. -/
def randomnessConsistentWrong : ChangeSpec := { name := "randomnessConsistent", fn := fun _ => fun
  | [d1, d2] => { results := [.lit (.bool false)], args := [d1, d2] }
  | _ => none }
def RandomnessConsistentWrongFalsely : Prop := randomnessConsistentRow.holds Tryz.pinned (OpenSpec.ofChange randomnessConsistentWrong)

/-- 'privitylaw24.RandomnessAllValuesReachable': WHATEVER THE INPUT: true; the input reads as it did. -/
def randomnessAllValuesReachableSpec : ChangeSpec := { name := "randomnessAllValuesReachable", fn := fun _ => fun
  | [d1, d2] => { results := [.lit (.bool true)], args := [d1, d2] }
  | _ => none }
def randomnessAllValuesReachableRow : OpenClaim := { program := "ytkmbblnepjofaaagreatdoor", sum := "eca050ed0f1ce7a5ae79ab55c2407d93854bad4d943345d8b5a61f31499a7340", func := "privity/privitylaw24.RandomnessAllValuesReachable", spec := "randomnessAllValuesReachable", inPlace := ["math/bits.Add64"], unfollowed := true, recurses := true, named := ["privity/field.exps"], apart := false, laid := [("privity/field.exps", laid_privity_field_exps)] }
def RandomnessAllValuesReachableSaid : Prop := randomnessAllValuesReachableRow.holds Tryz.pinned (OpenSpec.ofChange randomnessAllValuesReachableSpec)

/-- ITS FALSE NEIGHBOUR: 'it returns false'. Refute it at one input. -/
def randomnessAllValuesReachableWrong : ChangeSpec := { name := "randomnessAllValuesReachable", fn := fun _ => fun
  | [d1, d2] => { results := [.lit (.bool false)], args := [d1, d2] }
  | _ => none }
def RandomnessAllValuesReachableWrongFalsely : Prop := randomnessAllValuesReachableRow.holds Tryz.pinned (OpenSpec.ofChange randomnessAllValuesReachableWrong)

/-- 'privitylaw24.RandomnessSharings': WHATEVER THE INPUT: true; the input reads as it did. -/
def randomnessSharingsSpec : ChangeSpec := { name := "randomnessSharings", fn := fun _ => fun
  | [d1, d2] => { results := [.lit (.bool true)], args := [d1, d2] }
  | _ => none }
def randomnessSharingsRow : OpenClaim := { program := "ytkmbblnepjofaaagreatdoor", sum := "eca050ed0f1ce7a5ae79ab55c2407d93854bad4d943345d8b5a61f31499a7340", func := "privity/privitylaw24.RandomnessSharings", spec := "randomnessSharings", inPlace := ["math/bits.Add64"], unfollowed := true, recurses := true, named := ["privity/field.exps"], apart := false, laid := [("privity/field.exps", laid_privity_field_exps)] }
def RandomnessSharingsSaid : Prop := randomnessSharingsRow.holds Tryz.pinned (OpenSpec.ofChange randomnessSharingsSpec)

/-- ITS FALSE NEIGHBOUR: 'it returns false'. Refute it at one input. -/
def randomnessSharingsWrong : ChangeSpec := { name := "randomnessSharings", fn := fun _ => fun
  | [d1, d2] => { results := [.lit (.bool false)], args := [d1, d2] }
  | _ => none }
def RandomnessSharingsWrongFalsely : Prop := randomnessSharingsRow.holds Tryz.pinned (OpenSpec.ofChange randomnessSharingsWrong)

/-- 'privitylaw24.RandomnessSecrecy': WHATEVER THE INPUT: true; the input reads as it did. -/
def randomnessSecrecySpec : ChangeSpec := { name := "randomnessSecrecy", fn := fun _ => fun
  | [d1, d2, d3] => { results := [.lit (.bool true)], args := [d1, d2, d3] }
  | _ => none }
def randomnessSecrecyRow : OpenClaim := { program := "ytkmbblnepjofaaagreatdoor", sum := "eca050ed0f1ce7a5ae79ab55c2407d93854bad4d943345d8b5a61f31499a7340", func := "privity/privitylaw24.RandomnessSecrecy", spec := "randomnessSecrecy", inPlace := ["math/bits.Add64"], unfollowed := true, recurses := true, named := ["privity/field.exps"], apart := false, laid := [("privity/field.exps", laid_privity_field_exps)] }
def RandomnessSecrecySaid : Prop := randomnessSecrecyRow.holds Tryz.pinned (OpenSpec.ofChange randomnessSecrecySpec)

/-- ITS FALSE NEIGHBOUR: 'it returns false'. Refute it at one input. -/
def randomnessSecrecyWrong : ChangeSpec := { name := "randomnessSecrecy", fn := fun _ => fun
  | [d1, d2, d3] => { results := [.lit (.bool false)], args := [d1, d2, d3] }
  | _ => none }
def RandomnessSecrecyWrongFalsely : Prop := randomnessSecrecyRow.holds Tryz.pinned (OpenSpec.ofChange randomnessSecrecyWrong)

/-- 'privitylaw24.RandomnessBits': WHATEVER THE INPUT: true; the input reads as it did. -/
def randomnessBitsSpec : ChangeSpec := { name := "randomnessBits", fn := fun _ => fun
  | [d] => { results := [.lit (.bool true)], args := [d] }
  | _ => none }
def randomnessBitsRow : OpenClaim := { program := "ytkmbblnepjofaaagreatdoor", sum := "eca050ed0f1ce7a5ae79ab55c2407d93854bad4d943345d8b5a61f31499a7340", func := "privity/privitylaw24.RandomnessBits", spec := "randomnessBits", inPlace := ["math/bits.Add64"], unfollowed := true, recurses := true, named := ["privity/field.exps"], apart := false, laid := [("privity/field.exps", laid_privity_field_exps)] }
def RandomnessBitsSaid : Prop := randomnessBitsRow.holds Tryz.pinned (OpenSpec.ofChange randomnessBitsSpec)

/-- ITS FALSE NEIGHBOUR: 'it returns false'. Refute it at one input. -/
def randomnessBitsWrong : ChangeSpec := { name := "randomnessBits", fn := fun _ => fun
  | [d] => { results := [.lit (.bool false)], args := [d] }
  | _ => none }
def RandomnessBitsWrongFalsely : Prop := randomnessBitsRow.holds Tryz.pinned (OpenSpec.ofChange randomnessBitsWrong)

/-- 'privitylaw24.RandomnessBitSecrecy': WHATEVER THE INPUT: true; the input reads as it did. -/
def randomnessBitSecrecySpec : ChangeSpec := { name := "randomnessBitSecrecy", fn := fun _ => fun
  | [d1, d2] => { results := [.lit (.bool true)], args := [d1, d2] }
  | _ => none }
def randomnessBitSecrecyRow : OpenClaim := { program := "ytkmbblnepjofaaagreatdoor", sum := "eca050ed0f1ce7a5ae79ab55c2407d93854bad4d943345d8b5a61f31499a7340", func := "privity/privitylaw24.RandomnessBitSecrecy", spec := "randomnessBitSecrecy", inPlace := ["math/bits.Add64"], unfollowed := true, recurses := true, named := ["privity/field.exps"], apart := false, laid := [("privity/field.exps", laid_privity_field_exps)] }
def RandomnessBitSecrecySaid : Prop := randomnessBitSecrecyRow.holds Tryz.pinned (OpenSpec.ofChange randomnessBitSecrecySpec)

/-- ITS FALSE NEIGHBOUR: 'it returns false'. Refute it at one input. -/
def randomnessBitSecrecyWrong : ChangeSpec := { name := "randomnessBitSecrecy", fn := fun _ => fun
  | [d1, d2] => { results := [.lit (.bool false)], args := [d1, d2] }
  | _ => none }
def RandomnessBitSecrecyWrongFalsely : Prop := randomnessBitSecrecyRow.holds Tryz.pinned (OpenSpec.ofChange randomnessBitSecrecyWrong)

/-- 'privitylaw24.RandomnessExtractorInvertible': WHATEVER THE INPUT: true; the input reads as it did. -/
def randomnessExtractorInvertibleSpec : ChangeSpec := { name := "randomnessExtractorInvertible", fn := fun _ => fun
  | [d1, d2] => { results := [.lit (.bool true)], args := [d1, d2] }
  | _ => none }
def randomnessExtractorInvertibleRow : OpenClaim := { program := "ytkmbblnepjofaaagreatdoor", sum := "eca050ed0f1ce7a5ae79ab55c2407d93854bad4d943345d8b5a61f31499a7340", func := "privity/privitylaw24.RandomnessExtractorInvertible", spec := "randomnessExtractorInvertible", inPlace := ["math/bits.Add64"], unfollowed := true, recurses := true, named := ["privity/field.exps"], apart := false, laid := [("privity/field.exps", laid_privity_field_exps)] }
def RandomnessExtractorInvertibleSaid : Prop := randomnessExtractorInvertibleRow.holds Tryz.pinned (OpenSpec.ofChange randomnessExtractorInvertibleSpec)

/-- ITS FALSE NEIGHBOUR: 'it returns false'. Refute it at one input. -/
def randomnessExtractorInvertibleWrong : ChangeSpec := { name := "randomnessExtractorInvertible", fn := fun _ => fun
  | [d1, d2] => { results := [.lit (.bool false)], args := [d1, d2] }
  | _ => none }
def RandomnessExtractorInvertibleWrongFalsely : Prop := randomnessExtractorInvertibleRow.holds Tryz.pinned (OpenSpec.ofChange randomnessExtractorInvertibleWrong)

/- THE SECOND FORM. 'bulk': how many values and letters a reading holds, each counted each time it is reached (what is shared counts as often as it is met; a slice's spare places count too). A statement '..UptoSaid' is the law's where the arguments, and the package variables that the reading takes, are together of bulk at most 1048576: NARROWER than '..Said'. Prove '..Said' where nothing that the law and all that it calls make is longer than what came in: it says more and counts as full. Else prove '..UptoSaid'. A law counts once. -/
mutual
def uptoBulk {H : Type} : DataW H → Nat
  | .lit (.string bytes) => bytes.length + 1
  | .lit _ => 1
  | .nil => 1
  | .ptr d => uptoBulk d + 1
  | .slice elems spare => uptoBulkAll elems + uptoBulkAll spare + 1
  | .agg parts => uptoBulkAll parts + 1
  | .iface _ d => uptoBulk d + 1
  | .map entries => uptoBulkEntries entries + 1
  | .held _ => 1
def uptoBulkAll {H : Type} : List (DataW H) → Nat
  | [] => 0
  | d :: r => uptoBulk d + uptoBulkAll r
def uptoBulkEntries {H : Type} : List (Lit × DataW H) → Nat
  | [] => 0
  | x :: r => uptoBulkEntry x + uptoBulkEntries r
def uptoBulkEntry {H : Type} : Lit × DataW H → Nat
  | (.string bytes, d) => bytes.length + uptoBulk d + 1
  | (_, d) => uptoBulk d + 1
 end
def uptoSmall : (H : Type) → List (DataW H) → Bool := fun _ ds => decide (uptoBulkAll ds ≤ 1048576)
def OpenSpec.upto (s : _root_.Go.ChangeSpec) : _root_.Go.OpenSpec := { _root_.Go.OpenSpec.ofChange s with cond := some uptoSmall }

/-- 'privitylaw24.RandomnessConsistent', WHERE WHAT IT READS IS OF BULK AT MOST 1048576: true; the input reads as it did. -/
def randomnessConsistentUptoRow : OpenClaim := { program := "ytkmbblnepjofaaagreatdoor", sum := "eca050ed0f1ce7a5ae79ab55c2407d93854bad4d943345d8b5a61f31499a7340", func := "privity/privitylaw24.RandomnessConsistent", spec := "randomnessConsistent", inPlace := ["math/bits.Add64"], unfollowed := true, recurses := true, named := ["privity/field.exps"], apart := false, laid := [("privity/field.exps", laid_privity_field_exps)], narrowed := true }
def RandomnessConsistentUptoSaid : Prop := randomnessConsistentUptoRow.holds Tryz.pinned (OpenSpec.upto randomnessConsistentSpec)

/-- 'privitylaw24.RandomnessAllValuesReachable', WHERE WHAT IT READS IS OF BULK AT MOST 1048576: true; the input reads as it did. -/
def randomnessAllValuesReachableUptoRow : OpenClaim := { program := "ytkmbblnepjofaaagreatdoor", sum := "eca050ed0f1ce7a5ae79ab55c2407d93854bad4d943345d8b5a61f31499a7340", func := "privity/privitylaw24.RandomnessAllValuesReachable", spec := "randomnessAllValuesReachable", inPlace := ["math/bits.Add64"], unfollowed := true, recurses := true, named := ["privity/field.exps"], apart := false, laid := [("privity/field.exps", laid_privity_field_exps)], narrowed := true }
def RandomnessAllValuesReachableUptoSaid : Prop := randomnessAllValuesReachableUptoRow.holds Tryz.pinned (OpenSpec.upto randomnessAllValuesReachableSpec)

/-- 'privitylaw24.RandomnessSharings', WHERE WHAT IT READS IS OF BULK AT MOST 1048576: true; the input reads as it did. -/
def randomnessSharingsUptoRow : OpenClaim := { program := "ytkmbblnepjofaaagreatdoor", sum := "eca050ed0f1ce7a5ae79ab55c2407d93854bad4d943345d8b5a61f31499a7340", func := "privity/privitylaw24.RandomnessSharings", spec := "randomnessSharings", inPlace := ["math/bits.Add64"], unfollowed := true, recurses := true, named := ["privity/field.exps"], apart := false, laid := [("privity/field.exps", laid_privity_field_exps)], narrowed := true }
def RandomnessSharingsUptoSaid : Prop := randomnessSharingsUptoRow.holds Tryz.pinned (OpenSpec.upto randomnessSharingsSpec)

/-- 'privitylaw24.RandomnessSecrecy', WHERE WHAT IT READS IS OF BULK AT MOST 1048576: true; the input reads as it did. -/
def randomnessSecrecyUptoRow : OpenClaim := { program := "ytkmbblnepjofaaagreatdoor", sum := "eca050ed0f1ce7a5ae79ab55c2407d93854bad4d943345d8b5a61f31499a7340", func := "privity/privitylaw24.RandomnessSecrecy", spec := "randomnessSecrecy", inPlace := ["math/bits.Add64"], unfollowed := true, recurses := true, named := ["privity/field.exps"], apart := false, laid := [("privity/field.exps", laid_privity_field_exps)], narrowed := true }
def RandomnessSecrecyUptoSaid : Prop := randomnessSecrecyUptoRow.holds Tryz.pinned (OpenSpec.upto randomnessSecrecySpec)

/-- 'privitylaw24.RandomnessBits', WHERE WHAT IT READS IS OF BULK AT MOST 1048576: true; the input reads as it did. -/
def randomnessBitsUptoRow : OpenClaim := { program := "ytkmbblnepjofaaagreatdoor", sum := "eca050ed0f1ce7a5ae79ab55c2407d93854bad4d943345d8b5a61f31499a7340", func := "privity/privitylaw24.RandomnessBits", spec := "randomnessBits", inPlace := ["math/bits.Add64"], unfollowed := true, recurses := true, named := ["privity/field.exps"], apart := false, laid := [("privity/field.exps", laid_privity_field_exps)], narrowed := true }
def RandomnessBitsUptoSaid : Prop := randomnessBitsUptoRow.holds Tryz.pinned (OpenSpec.upto randomnessBitsSpec)

/-- 'privitylaw24.RandomnessBitSecrecy', WHERE WHAT IT READS IS OF BULK AT MOST 1048576: true; the input reads as it did. -/
def randomnessBitSecrecyUptoRow : OpenClaim := { program := "ytkmbblnepjofaaagreatdoor", sum := "eca050ed0f1ce7a5ae79ab55c2407d93854bad4d943345d8b5a61f31499a7340", func := "privity/privitylaw24.RandomnessBitSecrecy", spec := "randomnessBitSecrecy", inPlace := ["math/bits.Add64"], unfollowed := true, recurses := true, named := ["privity/field.exps"], apart := false, laid := [("privity/field.exps", laid_privity_field_exps)], narrowed := true }
def RandomnessBitSecrecyUptoSaid : Prop := randomnessBitSecrecyUptoRow.holds Tryz.pinned (OpenSpec.upto randomnessBitSecrecySpec)

/-- 'privitylaw24.RandomnessExtractorInvertible', WHERE WHAT IT READS IS OF BULK AT MOST 1048576: true; the input reads as it did. -/
def randomnessExtractorInvertibleUptoRow : OpenClaim := { program := "ytkmbblnepjofaaagreatdoor", sum := "eca050ed0f1ce7a5ae79ab55c2407d93854bad4d943345d8b5a61f31499a7340", func := "privity/privitylaw24.RandomnessExtractorInvertible", spec := "randomnessExtractorInvertible", inPlace := ["math/bits.Add64"], unfollowed := true, recurses := true, named := ["privity/field.exps"], apart := false, laid := [("privity/field.exps", laid_privity_field_exps)], narrowed := true }
def RandomnessExtractorInvertibleUptoSaid : Prop := randomnessExtractorInvertibleUptoRow.holds Tryz.pinned (OpenSpec.upto randomnessExtractorInvertibleSpec)

end Rows
end Go.Proofs.YtkmbblnepjofaaaGreatDoor
