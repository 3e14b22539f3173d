/- Closed facts of the program alone. -/
import Derived.Test.YtahofpgjianhdaaGreatDoorCards
import Derived.Test.YtahofpgjianhdaaGreatDoorTp3
namespace Go.Proofs.YtahofpgjianhdaaGreatDoor
open Go Gw
theorem w0 : (behindMainWord (wordsSigns Tryz.prog.initOrder.toList)).head? = some "cut".toList := by kernel_rfl
theorem w1:Tryz.prog.laysLater=false:=by kernel_rfl
theorem w2:Tryz.prog.bearsReflect=false:=by kernel_rfl
theorem w3:Tryz.prog.doorFits []=true:=by kernel_rfl
theorem pf_make:(Tryz.prog.make == some Make.cut)=true:=make_of w0
theorem pf_lift:(false == Tryz.prog.liftsFinal)=true:=lifts_of w0
theorem pf25:(fun (P:Program)=>(P.mayEnter:Bool)) Tryz.prog=true:=mayEnter_of w0 w1 w2 w3
end Go.Proofs.YtahofpgjianhdaaGreatDoor
