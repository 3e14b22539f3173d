/-
  NARROWER THAN 'FOR EVERY INPUT', by the rows' own cells (each row's printed sentence says how): RefreshZeroSharings: laid · RefreshZeroSecret: laid · RefreshPreservesSecrets: laid · RefreshRepeated: laid · RefreshMobileAdversary: laid.
  DERIVED. THE GIVEN ROWS OF THIS SEAT. 5 by the template 'for every input the law returns true; each argument reads behind the call as it read before'; 0 by the template 'total and deterministic' (their statements: YthdaobopefbpeaaGreatDoorTotals.lean).
  GIVEN WITH THE SEED: the statements are not yours to turn. If you find one false, say at which input.
  Laid BY PROGRAM, IN A SANDBOX (cutbox-rows.mjs): the forced cells as the released guide's own fill.sh prints them over the translation 47bbe65374c9dc9a… (all of the seat's roots in one cut). By AI agents, Wed Nov 11 2026. No macro, syntax, notation, axiom, sorry.
-/
import Derived.Test.YthdaobopefbpeaaGreatDoorChecked
import GoSem.Claim
import GoSem.ClaimJoined
import GoSem.ClaimMapViews
import Derived.JoinedTies
import Derived.KernelRfl
namespace Go.Proofs.YthdaobopefbpeaaGreatDoor
/- THE CELL 'sum', in the pinned program and in every row, IS THE sha256 OF THE DUMP (.gsa) THAT YthdaobopefbpeaaGreatDoorProg.lean LOADS. Nothing in Lean hashes anything: it is a label: what it is worth is what the hold of that sum in a sandbox is worth. -/
noncomputable def Tryz.pinned : Pinned := { name := "ythdaobopefbpeaagreatdoor", sum := "47bbe65374c9dc9a48208bb5aa9f296b4954d39e058c6803881e58a1e626213c", checked := Tryz.checked }
namespace Rows
def none {H : Type} : Left H := { results := [], args := [] }

/- WHAT THE LISTED PACKAGE-LEVEL VARIABLES READ AS WHEN THE CALL BEGINS. Each datum BY PROGRAM (the guide's laid-datum.mjs) off the statement by which the dump's own 'gosem.cut.vars' lays the variable. In a bare row this is a premise. The card (YthdaobopefbpeaaGreatDoorCards.lean) ties it to the program's text. -/
def laid_privity_field_exps {H : Type} : DataW H := .agg [.lit (.int .i64 5), .lit (.int .i64 7), .lit (.int .i64 13), .lit (.int .i64 17), .lit (.int .i64 19), .lit (.int .i64 31), .lit (.int .i64 61)]

/-- 'privitylaw46.RefreshZeroSharings': WHATEVER THE INPUT: true; the input reads as it did. -/
def refreshZeroSharingsSpec : ChangeSpec := { name := "refreshZeroSharings", fn := fun _ => fun
  | [d1, d2] => { results := [.lit (.bool true)], args := [d1, d2] }
  | _ => none }
def refreshZeroSharingsRow : OpenClaim := { program := "ythdaobopefbpeaagreatdoor", sum := "47bbe65374c9dc9a48208bb5aa9f296b4954d39e058c6803881e58a1e626213c", func := "privity/privitylaw46.RefreshZeroSharings", spec := "refreshZeroSharings", inPlace := ["math/bits.Add64"], unfollowed := true, recurses := true, named := ["privity/field.exps"], apart := false, laid := [("privity/field.exps", laid_privity_field_exps)] }
def RefreshZeroSharingsSaid : Prop := refreshZeroSharingsRow.holds Tryz.pinned (OpenSpec.ofChange refreshZeroSharingsSpec)

/-- ITS FALSE NEIGHBOUR: 'it returns false'. Refute it at one input. -/
def refreshZeroSharingsWrong : ChangeSpec := { name := "refreshZeroSharings", fn := fun _ => fun
  | [d1, d2] => { results := [.lit (.bool false)], args := [d1, d2] }
  | _ => none }
def RefreshZeroSharingsWrongFalsely : Prop := refreshZeroSharingsRow.holds Tryz.pinned (OpenSpec.ofChange refreshZeroSharingsWrong)

/-- 'privitylaw46.RefreshZeroSecret': WHATEVER THE INPUT: true; the input reads as it did. -/
def refreshZeroSecretSpec : ChangeSpec := { name := "refreshZeroSecret", fn := fun _ => fun
  | [d1, d2] => { results := [.lit (.bool true)], args := [d1, d2] }
  | _ => none }
def refreshZeroSecretRow : OpenClaim := { program := "ythdaobopefbpeaagreatdoor", sum := "47bbe65374c9dc9a48208bb5aa9f296b4954d39e058c6803881e58a1e626213c", func := "privity/privitylaw46.RefreshZeroSecret", spec := "refreshZeroSecret", inPlace := ["math/bits.Add64"], unfollowed := true, recurses := true, named := ["privity/field.exps"], apart := false, laid := [("privity/field.exps", laid_privity_field_exps)] }
def RefreshZeroSecretSaid : Prop := refreshZeroSecretRow.holds Tryz.pinned (OpenSpec.ofChange refreshZeroSecretSpec)

/-- ITS FALSE NEIGHBOUR: 'it returns false'. Refute it at one input. -/
def refreshZeroSecretWrong : ChangeSpec := { name := "refreshZeroSecret", fn := fun _ => fun
  | [d1, d2] => { results := [.lit (.bool false)], args := [d1, d2] }
  | _ => none }
def RefreshZeroSecretWrongFalsely : Prop := refreshZeroSecretRow.holds Tryz.pinned (OpenSpec.ofChange refreshZeroSecretWrong)

/-- 'privitylaw46.RefreshPreservesSecrets': WHATEVER THE INPUT: true; the input reads as it did. -/
def refreshPreservesSecretsSpec : ChangeSpec := { name := "refreshPreservesSecrets", fn := fun _ => fun
  | [d1, d2] => { results := [.lit (.bool true)], args := [d1, d2] }
  | _ => none }
def refreshPreservesSecretsRow : OpenClaim := { program := "ythdaobopefbpeaagreatdoor", sum := "47bbe65374c9dc9a48208bb5aa9f296b4954d39e058c6803881e58a1e626213c", func := "privity/privitylaw46.RefreshPreservesSecrets", spec := "refreshPreservesSecrets", inPlace := ["math/bits.Add64"], unfollowed := true, recurses := true, named := ["privity/field.exps"], apart := false, laid := [("privity/field.exps", laid_privity_field_exps)] }
def RefreshPreservesSecretsSaid : Prop := refreshPreservesSecretsRow.holds Tryz.pinned (OpenSpec.ofChange refreshPreservesSecretsSpec)

/-- ITS FALSE NEIGHBOUR: 'it returns false'. Refute it at one input. -/
def refreshPreservesSecretsWrong : ChangeSpec := { name := "refreshPreservesSecrets", fn := fun _ => fun
  | [d1, d2] => { results := [.lit (.bool false)], args := [d1, d2] }
  | _ => none }
def RefreshPreservesSecretsWrongFalsely : Prop := refreshPreservesSecretsRow.holds Tryz.pinned (OpenSpec.ofChange refreshPreservesSecretsWrong)

/-- 'privitylaw46.RefreshRepeated': WHATEVER THE INPUT: true; the input reads as it did. -/
def refreshRepeatedSpec : ChangeSpec := { name := "refreshRepeated", fn := fun _ => fun
  | [d1, d2, d3] => { results := [.lit (.bool true)], args := [d1, d2, d3] }
  | _ => none }
def refreshRepeatedRow : OpenClaim := { program := "ythdaobopefbpeaagreatdoor", sum := "47bbe65374c9dc9a48208bb5aa9f296b4954d39e058c6803881e58a1e626213c", func := "privity/privitylaw46.RefreshRepeated", spec := "refreshRepeated", inPlace := ["math/bits.Add64"], unfollowed := true, recurses := true, named := ["privity/field.exps"], apart := false, laid := [("privity/field.exps", laid_privity_field_exps)] }
def RefreshRepeatedSaid : Prop := refreshRepeatedRow.holds Tryz.pinned (OpenSpec.ofChange refreshRepeatedSpec)

/-- ITS FALSE NEIGHBOUR: 'it returns false'. Refute it at one input. -/
def refreshRepeatedWrong : ChangeSpec := { name := "refreshRepeated", fn := fun _ => fun
  | [d1, d2, d3] => { results := [.lit (.bool false)], args := [d1, d2, d3] }
  | _ => none }
def RefreshRepeatedWrongFalsely : Prop := refreshRepeatedRow.holds Tryz.pinned (OpenSpec.ofChange refreshRepeatedWrong)

/-- 'privitylaw46.RefreshMobileAdversary': WHATEVER THE INPUT: true; the input reads as it did. -/
def refreshMobileAdversarySpec : ChangeSpec := { name := "refreshMobileAdversary", fn := fun _ => fun
  | [d] => { results := [.lit (.bool true)], args := [d] }
  | _ => none }
def refreshMobileAdversaryRow : OpenClaim := { program := "ythdaobopefbpeaagreatdoor", sum := "47bbe65374c9dc9a48208bb5aa9f296b4954d39e058c6803881e58a1e626213c", func := "privity/privitylaw46.RefreshMobileAdversary", spec := "refreshMobileAdversary", inPlace := ["math/bits.Add64"], unfollowed := true, recurses := true, named := ["privity/field.exps"], apart := false, laid := [("privity/field.exps", laid_privity_field_exps)] }
def RefreshMobileAdversarySaid : Prop := refreshMobileAdversaryRow.holds Tryz.pinned (OpenSpec.ofChange refreshMobileAdversarySpec)

/-- ITS FALSE NEIGHBOUR: 'it returns false'. Refute it at one input. -/
def refreshMobileAdversaryWrong : ChangeSpec := { name := "refreshMobileAdversary", fn := fun _ => fun
  | [d] => { results := [.lit (.bool false)], args := [d] }
  | _ => none }
def RefreshMobileAdversaryWrongFalsely : Prop := refreshMobileAdversaryRow.holds Tryz.pinned (OpenSpec.ofChange refreshMobileAdversaryWrong)

/- THE SECOND FORM. 'bulk': how many values and letters a reading holds, each counted each time it is reached (what is shared counts as often as it is met; a slice's spare places count too). A statement '..UptoSaid' is the law's where the arguments, and the package variables that the reading takes, are together of bulk at most 1048576: NARROWER than '..Said'. Prove '..Said' where nothing that the law and all that it calls make is longer than what came in: it says more and counts as full. Else prove '..UptoSaid'. A law counts once. -/
mutual
def uptoBulk {H : Type} : DataW H → Nat
  | .lit (.string bytes) => bytes.length + 1
  | .lit _ => 1
  | .nil => 1
  | .ptr d => uptoBulk d + 1
  | .slice elems spare => uptoBulkAll elems + uptoBulkAll spare + 1
  | .agg parts => uptoBulkAll parts + 1
  | .iface _ d => uptoBulk d + 1
  | .map entries => uptoBulkEntries entries + 1
  | .held _ => 1
def uptoBulkAll {H : Type} : List (DataW H) → Nat
  | [] => 0
  | d :: r => uptoBulk d + uptoBulkAll r
def uptoBulkEntries {H : Type} : List (Lit × DataW H) → Nat
  | [] => 0
  | x :: r => uptoBulkEntry x + uptoBulkEntries r
def uptoBulkEntry {H : Type} : Lit × DataW H → Nat
  | (.string bytes, d) => bytes.length + uptoBulk d + 1
  | (_, d) => uptoBulk d + 1
 end
def uptoSmall : (H : Type) → List (DataW H) → Bool := fun _ ds => decide (uptoBulkAll ds ≤ 1048576)
def OpenSpec.upto (s : _root_.Go.ChangeSpec) : _root_.Go.OpenSpec := { _root_.Go.OpenSpec.ofChange s with cond := some uptoSmall }

/-- 'privitylaw46.RefreshZeroSharings', WHERE WHAT IT READS IS OF BULK AT MOST 1048576: true; the input reads as it did. -/
def refreshZeroSharingsUptoRow : OpenClaim := { program := "ythdaobopefbpeaagreatdoor", sum := "47bbe65374c9dc9a48208bb5aa9f296b4954d39e058c6803881e58a1e626213c", func := "privity/privitylaw46.RefreshZeroSharings", spec := "refreshZeroSharings", inPlace := ["math/bits.Add64"], unfollowed := true, recurses := true, named := ["privity/field.exps"], apart := false, laid := [("privity/field.exps", laid_privity_field_exps)], narrowed := true }
def RefreshZeroSharingsUptoSaid : Prop := refreshZeroSharingsUptoRow.holds Tryz.pinned (OpenSpec.upto refreshZeroSharingsSpec)

/-- 'privitylaw46.RefreshZeroSecret', WHERE WHAT IT READS IS OF BULK AT MOST 1048576: true; the input reads as it did. -/
def refreshZeroSecretUptoRow : OpenClaim := { program := "ythdaobopefbpeaagreatdoor", sum := "47bbe65374c9dc9a48208bb5aa9f296b4954d39e058c6803881e58a1e626213c", func := "privity/privitylaw46.RefreshZeroSecret", spec := "refreshZeroSecret", inPlace := ["math/bits.Add64"], unfollowed := true, recurses := true, named := ["privity/field.exps"], apart := false, laid := [("privity/field.exps", laid_privity_field_exps)], narrowed := true }
def RefreshZeroSecretUptoSaid : Prop := refreshZeroSecretUptoRow.holds Tryz.pinned (OpenSpec.upto refreshZeroSecretSpec)

/-- 'privitylaw46.RefreshPreservesSecrets', WHERE WHAT IT READS IS OF BULK AT MOST 1048576: true; the input reads as it did. -/
def refreshPreservesSecretsUptoRow : OpenClaim := { program := "ythdaobopefbpeaagreatdoor", sum := "47bbe65374c9dc9a48208bb5aa9f296b4954d39e058c6803881e58a1e626213c", func := "privity/privitylaw46.RefreshPreservesSecrets", spec := "refreshPreservesSecrets", inPlace := ["math/bits.Add64"], unfollowed := true, recurses := true, named := ["privity/field.exps"], apart := false, laid := [("privity/field.exps", laid_privity_field_exps)], narrowed := true }
def RefreshPreservesSecretsUptoSaid : Prop := refreshPreservesSecretsUptoRow.holds Tryz.pinned (OpenSpec.upto refreshPreservesSecretsSpec)

/-- 'privitylaw46.RefreshRepeated', WHERE WHAT IT READS IS OF BULK AT MOST 1048576: true; the input reads as it did. -/
def refreshRepeatedUptoRow : OpenClaim := { program := "ythdaobopefbpeaagreatdoor", sum := "47bbe65374c9dc9a48208bb5aa9f296b4954d39e058c6803881e58a1e626213c", func := "privity/privitylaw46.RefreshRepeated", spec := "refreshRepeated", inPlace := ["math/bits.Add64"], unfollowed := true, recurses := true, named := ["privity/field.exps"], apart := false, laid := [("privity/field.exps", laid_privity_field_exps)], narrowed := true }
def RefreshRepeatedUptoSaid : Prop := refreshRepeatedUptoRow.holds Tryz.pinned (OpenSpec.upto refreshRepeatedSpec)

/-- 'privitylaw46.RefreshMobileAdversary', WHERE WHAT IT READS IS OF BULK AT MOST 1048576: true; the input reads as it did. -/
def refreshMobileAdversaryUptoRow : OpenClaim := { program := "ythdaobopefbpeaagreatdoor", sum := "47bbe65374c9dc9a48208bb5aa9f296b4954d39e058c6803881e58a1e626213c", func := "privity/privitylaw46.RefreshMobileAdversary", spec := "refreshMobileAdversary", inPlace := ["math/bits.Add64"], unfollowed := true, recurses := true, named := ["privity/field.exps"], apart := false, laid := [("privity/field.exps", laid_privity_field_exps)], narrowed := true }
def RefreshMobileAdversaryUptoSaid : Prop := refreshMobileAdversaryUptoRow.holds Tryz.pinned (OpenSpec.upto refreshMobileAdversarySpec)

end Rows
end Go.Proofs.YthdaobopefbpeaaGreatDoor
