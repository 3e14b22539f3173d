/- Closed facts of the program alone. -/
import Derived.Test.YthdaobopefbpeaaGreatDoorCards
import Derived.Test.YthdaobopefbpeaaGreatDoorTp3
namespace Go.Proofs.YthdaobopefbpeaaGreatDoor
open Go Gw
theorem w0 : (behindMainWord (wordsSigns Tryz.prog.initOrder.toList)).head? = some "cut".toList := by kernel_rfl
theorem w1:Tryz.prog.laysLater=false:=by kernel_rfl
theorem w2:Tryz.prog.bearsReflect=false:=by kernel_rfl
theorem w3:Tryz.prog.doorFits []=true:=by kernel_rfl
theorem IR:(Tryz.prog.make == some Make.cut)=true:=IC w0
theorem IP:(false == Tryz.prog.liftsFinal)=true:=ES w0
theorem Oh:(fun (P:Program)=>(P.mayEnter:Bool)) Tryz.prog=true:=Ai w0 w1 w2 w3
end Go.Proofs.YthdaobopefbpeaaGreatDoor
