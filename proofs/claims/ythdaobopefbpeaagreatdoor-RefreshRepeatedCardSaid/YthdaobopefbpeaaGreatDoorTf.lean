/- Closed facts of the program alone. -/
import Derived.Test.YthdaobopefbpeaaGreatDoorCards
import Derived.Test.YthdaobopefbpeaaGreatDoorTp3
namespace Go.Proofs.YthdaobopefbpeaaGreatDoor
open Go Gw
theorem w0 : (behindMainWord (wordsSigns Tryz.prog.initOrder.toList)).head? = some "cut".toList := by kernel_rfl
theorem w1:Tryz.prog.laysLater=false:=by kernel_rfl
theorem w2:Tryz.prog.bearsReflect=false:=by kernel_rfl
theorem w3:Tryz.prog.doorFits []=true:=by kernel_rfl
theorem JL:(Tryz.prog.make == some Make.cut)=true:=Jy w0
theorem JJ:(false == Tryz.prog.liftsFinal)=true:=FL w0
theorem Pf:(fun (P:Program)=>(P.mayEnter:Bool)) Tryz.prog=true:=AQ w0 w1 w2 w3
end Go.Proofs.YthdaobopefbpeaaGreatDoor
