/- Closed facts of the program alone. -/
import Derived.Test.YtclhpomlfadohaaDoorCards
import Derived.Test.YtclhpomlfadohaaDoorTp3
namespace Go.Proofs.YtclhpomlfadohaaDoor
open Go Gw
theorem w0 : (behindMainWord (wordsSigns Tryd.prog.initOrder.toList)).head? = some "cut".toList := by kernel_rfl
theorem w1 : Tryd.prog.laysLater = false := by kernel_rfl
theorem w2 : Tryd.prog.bearsReflect = false := by kernel_rfl
theorem w3 : Tryd.prog.doorFits [] = true := by kernel_rfl
theorem pf_make : (Tryd.prog.make == some Make.cut) = true := make_of w0
theorem pf_lift : (false == Tryd.prog.liftsFinal) = true := lifts_of w0
theorem pf25 : (fun (P : Program) => (P.mayEnter : Bool)) Tryd.prog = true := mayEnter_of w0 w1 w2 w3
end Go.Proofs.YtclhpomlfadohaaDoor
