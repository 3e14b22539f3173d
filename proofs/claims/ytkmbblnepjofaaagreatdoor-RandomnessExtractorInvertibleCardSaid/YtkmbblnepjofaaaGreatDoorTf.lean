/- Closed facts of the program alone. -/
import Derived.Test.YtkmbblnepjofaaaGreatDoorCards
import Derived.Test.YtkmbblnepjofaaaGreatDoorTp3
namespace Go.Proofs.YtkmbblnepjofaaaGreatDoor
open Go Gw
theorem w0 : (behindMainWord (wordsSigns Tryz.prog.initOrder.toList)).head? = some "cut".toList := by kernel_rfl
theorem w1:Tryz.prog.laysLater=false:=by kernel_rfl
theorem w2:Tryz.prog.bearsReflect=false:=by kernel_rfl
theorem w3:Tryz.prog.doorFits []=true:=by kernel_rfl
theorem Cb:(Tryz.prog.make == some Make.cut)=true:=B4 w0
theorem B9:(false == Tryz.prog.liftsFinal)=true:=yZ w0
theorem GC:(fun (P:Program)=>(P.mayEnter:Bool)) Tryz.prog=true:=vp w0 w1 w2 w3
end Go.Proofs.YtkmbblnepjofaaaGreatDoor
