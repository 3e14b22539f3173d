/-
  NARROWER THAN 'FOR EVERY INPUT', by the rows' own cells (each row's printed sentence says how): RecoveryRows: laid · ReconstructRows: laid · TriplestoreVerifyMatchesReference: laid.
  DERIVED. THE GIVEN ROWS OF THIS SEAT. 3 by the template 'for every input the law returns true; each argument reads behind the call as it read before'; 0 by the template 'total and deterministic' (their statements: YtclhpomlfadohaaGreatDoorTotals.lean).
  GIVEN WITH THE SEED: the statements are not yours to turn. If you find one false, say at which input.
  Laid BY PROGRAM, IN A SANDBOX (cutbox-rows.mjs): the forced cells as the released guide's own fill.sh prints them over the translation 8d80d322ef44de9c… (all of the seat's roots in one cut). By AI agents, Wed Nov 11 2026. No macro, syntax, notation, axiom, sorry.
-/
import Derived.Test.YtclhpomlfadohaaGreatDoorChecked
import GoSem.Claim
import GoSem.ClaimJoined
import GoSem.ClaimMapViews
import Derived.JoinedTies
import Derived.KernelRfl
namespace Go.Proofs.YtclhpomlfadohaaGreatDoor
/- THE CELL 'sum', in the pinned program and in every row, IS THE sha256 OF THE DUMP (.gsa) THAT YtclhpomlfadohaaGreatDoorProg.lean LOADS. Nothing in Lean hashes anything: it is a label: what it is worth is what the hold of that sum in a sandbox is worth. -/
noncomputable def Tryz.pinned : Pinned := { name := "ytclhpomlfadohaagreatdoor", sum := "8d80d322ef44de9c30c9d576999f3f0eb0816814ca2f62695863d4d16570730c", checked := Tryz.checked }
namespace Rows
def none {H : Type} : Left H := { results := [], args := [] }

/- WHAT THE LISTED PACKAGE-LEVEL VARIABLES READ AS WHEN THE CALL BEGINS. Each datum BY PROGRAM (the guide's laid-datum.mjs) off the statement by which the dump's own 'gosem.cut.vars' lays the variable. In a bare row this is a premise. The card (YtclhpomlfadohaaGreatDoorCards.lean) ties it to the program's text. -/
def laid_privity_field_exps {H : Type} : DataW H := .agg [.lit (.int .i64 5), .lit (.int .i64 7), .lit (.int .i64 13), .lit (.int .i64 17), .lit (.int .i64 19), .lit (.int .i64 31), .lit (.int .i64 61)]

/-- 'privitylaw47.RecoveryRows': WHATEVER THE INPUT: true; the input reads as it did. -/
def recoveryRowsSpec : ChangeSpec := { name := "recoveryRows", fn := fun _ => fun
  | [d] => { results := [.lit (.bool true)], args := [d] }
  | _ => none }
def recoveryRowsRow : OpenClaim := { program := "ytclhpomlfadohaagreatdoor", sum := "8d80d322ef44de9c30c9d576999f3f0eb0816814ca2f62695863d4d16570730c", func := "privity/privitylaw47.RecoveryRows", spec := "recoveryRows", inPlace := ["math/bits.Add64"], unfollowed := true, recurses := true, named := ["privity/field.exps"], apart := false, laid := [("privity/field.exps", laid_privity_field_exps)] }
def RecoveryRowsSaid : Prop := recoveryRowsRow.holds Tryz.pinned (OpenSpec.ofChange recoveryRowsSpec)

/-- ITS FALSE NEIGHBOUR: 'it returns false'. Refute it at one input. -/
def recoveryRowsWrong : ChangeSpec := { name := "recoveryRows", fn := fun _ => fun
  | [d] => { results := [.lit (.bool false)], args := [d] }
  | _ => none }
def RecoveryRowsWrongFalsely : Prop := recoveryRowsRow.holds Tryz.pinned (OpenSpec.ofChange recoveryRowsWrong)

/-- 'privitylaw20.ReconstructRows': WHATEVER THE INPUT: true; the input reads as it did. -/
def reconstructRowsSpec : ChangeSpec := { name := "reconstructRows", fn := fun _ => fun
  | [d] => { results := [.lit (.bool true)], args := [d] }
  | _ => none }
def reconstructRowsRow : OpenClaim := { program := "ytclhpomlfadohaagreatdoor", sum := "8d80d322ef44de9c30c9d576999f3f0eb0816814ca2f62695863d4d16570730c", func := "privity/privitylaw20.ReconstructRows", spec := "reconstructRows", inPlace := ["math/bits.Add64"], unfollowed := true, recurses := true, named := ["privity/field.exps"], apart := false, laid := [("privity/field.exps", laid_privity_field_exps)] }
def ReconstructRowsSaid : Prop := reconstructRowsRow.holds Tryz.pinned (OpenSpec.ofChange reconstructRowsSpec)

/-- ITS FALSE NEIGHBOUR: 'it returns false'. Refute it at one input. -/
def reconstructRowsWrong : ChangeSpec := { name := "reconstructRows", fn := fun _ => fun
  | [d] => { results := [.lit (.bool false)], args := [d] }
  | _ => none }
def ReconstructRowsWrongFalsely : Prop := reconstructRowsRow.holds Tryz.pinned (OpenSpec.ofChange reconstructRowsWrong)

/-- 'privitylaw25.TriplestoreVerifyMatchesReference': WHATEVER THE INPUT: true; the input reads as it did. -/
def triplestoreVerifyMatchesReferenceSpec : ChangeSpec := { name := "triplestoreVerifyMatchesReference", fn := fun _ => fun
  | [d] => { results := [.lit (.bool true)], args := [d] }
  | _ => none }
def triplestoreVerifyMatchesReferenceRow : OpenClaim := { program := "ytclhpomlfadohaagreatdoor", sum := "8d80d322ef44de9c30c9d576999f3f0eb0816814ca2f62695863d4d16570730c", func := "privity/privitylaw25.TriplestoreVerifyMatchesReference", spec := "triplestoreVerifyMatchesReference", inPlace := ["math/bits.Add64"], unfollowed := true, recurses := true, named := ["privity/field.exps"], apart := false, laid := [("privity/field.exps", laid_privity_field_exps)] }
def TriplestoreVerifyMatchesReferenceSaid : Prop := triplestoreVerifyMatchesReferenceRow.holds Tryz.pinned (OpenSpec.ofChange triplestoreVerifyMatchesReferenceSpec)

/-- ITS FALSE NEIGHBOUR: 'it returns false'. Refute it at one input. -/
def triplestoreVerifyMatchesReferenceWrong : ChangeSpec := { name := "triplestoreVerifyMatchesReference", fn := fun _ => fun
  | [d] => { results := [.lit (.bool false)], args := [d] }
  | _ => none }
def TriplestoreVerifyMatchesReferenceWrongFalsely : Prop := triplestoreVerifyMatchesReferenceRow.holds Tryz.pinned (OpenSpec.ofChange triplestoreVerifyMatchesReferenceWrong)

/- THE SECOND FORM. 'bulk': how many values and letters a reading holds, each counted each time it is reached (what is shared counts as often as it is met; a slice's spare places count too). A statement '..UptoSaid' is the law's where the arguments, and the package variables that the reading takes, are together of bulk at most 1048576: NARROWER than '..Said'. Prove '..Said' where nothing that the law and all that it calls make is longer than what came in: it says more and counts as full. Else prove '..UptoSaid'. A law counts once. -/
mutual
def uptoBulk {H : Type} : DataW H → Nat
  | .lit (.string bytes) => bytes.length + 1
  | .lit _ => 1
  | .nil => 1
  | .ptr d => uptoBulk d + 1
  | .slice elems spare => uptoBulkAll elems + uptoBulkAll spare + 1
  | .agg parts => uptoBulkAll parts + 1
  | .iface _ d => uptoBulk d + 1
  | .map entries => uptoBulkEntries entries + 1
  | .held _ => 1
def uptoBulkAll {H : Type} : List (DataW H) → Nat
  | [] => 0
  | d :: r => uptoBulk d + uptoBulkAll r
def uptoBulkEntries {H : Type} : List (Lit × DataW H) → Nat
  | [] => 0
  | x :: r => uptoBulkEntry x + uptoBulkEntries r
def uptoBulkEntry {H : Type} : Lit × DataW H → Nat
  | (.string bytes, d) => bytes.length + uptoBulk d + 1
  | (_, d) => uptoBulk d + 1
 end
def uptoSmall : (H : Type) → List (DataW H) → Bool := fun _ ds => decide (uptoBulkAll ds ≤ 1048576)
def OpenSpec.upto (s : _root_.Go.ChangeSpec) : _root_.Go.OpenSpec := { _root_.Go.OpenSpec.ofChange s with cond := some uptoSmall }

/-- 'privitylaw47.RecoveryRows', WHERE WHAT IT READS IS OF BULK AT MOST 1048576: true; the input reads as it did. -/
def recoveryRowsUptoRow : OpenClaim := { program := "ytclhpomlfadohaagreatdoor", sum := "8d80d322ef44de9c30c9d576999f3f0eb0816814ca2f62695863d4d16570730c", func := "privity/privitylaw47.RecoveryRows", spec := "recoveryRows", inPlace := ["math/bits.Add64"], unfollowed := true, recurses := true, named := ["privity/field.exps"], apart := false, laid := [("privity/field.exps", laid_privity_field_exps)], narrowed := true }
def RecoveryRowsUptoSaid : Prop := recoveryRowsUptoRow.holds Tryz.pinned (OpenSpec.upto recoveryRowsSpec)

/-- 'privitylaw20.ReconstructRows', WHERE WHAT IT READS IS OF BULK AT MOST 1048576: true; the input reads as it did. -/
def reconstructRowsUptoRow : OpenClaim := { program := "ytclhpomlfadohaagreatdoor", sum := "8d80d322ef44de9c30c9d576999f3f0eb0816814ca2f62695863d4d16570730c", func := "privity/privitylaw20.ReconstructRows", spec := "reconstructRows", inPlace := ["math/bits.Add64"], unfollowed := true, recurses := true, named := ["privity/field.exps"], apart := false, laid := [("privity/field.exps", laid_privity_field_exps)], narrowed := true }
def ReconstructRowsUptoSaid : Prop := reconstructRowsUptoRow.holds Tryz.pinned (OpenSpec.upto reconstructRowsSpec)

/-- 'privitylaw25.TriplestoreVerifyMatchesReference', WHERE WHAT IT READS IS OF BULK AT MOST 1048576: true; the input reads as it did. -/
def triplestoreVerifyMatchesReferenceUptoRow : OpenClaim := { program := "ytclhpomlfadohaagreatdoor", sum := "8d80d322ef44de9c30c9d576999f3f0eb0816814ca2f62695863d4d16570730c", func := "privity/privitylaw25.TriplestoreVerifyMatchesReference", spec := "triplestoreVerifyMatchesReference", inPlace := ["math/bits.Add64"], unfollowed := true, recurses := true, named := ["privity/field.exps"], apart := false, laid := [("privity/field.exps", laid_privity_field_exps)], narrowed := true }
def TriplestoreVerifyMatchesReferenceUptoSaid : Prop := triplestoreVerifyMatchesReferenceUptoRow.holds Tryz.pinned (OpenSpec.upto triplestoreVerifyMatchesReferenceSpec)

end Rows
end Go.Proofs.YtclhpomlfadohaaGreatDoor
