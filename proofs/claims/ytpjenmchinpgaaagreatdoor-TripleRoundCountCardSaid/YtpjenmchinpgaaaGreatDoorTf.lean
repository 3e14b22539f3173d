/- Closed facts of the program alone. -/
import Derived.Test.YtpjenmchinpgaaaGreatDoorCards
import Derived.Test.YtpjenmchinpgaaaGreatDoorTp3
namespace Go.Proofs.YtpjenmchinpgaaaGreatDoor
open Go Gw
theorem w0 : (behindMainWord (wordsSigns Tryz.prog.initOrder.toList)).head? = some "cut".toList := by kernel_rfl
theorem w1:Tryz.prog.laysLater=false:=by kernel_rfl
theorem w2:Tryz.prog.bearsReflect=false:=by kernel_rfl
theorem w3:Tryz.prog.doorFits []=true:=by kernel_rfl
theorem Kq:(Tryz.prog.make==some Make.cut)=true:=Kf w0
theorem Ko:(false==Tryz.prog.liftsFinal)=true:=GE w0
theorem Qd:(λ(P:Program)=>(P.mayEnter:Bool)) Tryz.prog=true:=BN w0 w1 w2 w3
end Go.Proofs.YtpjenmchinpgaaaGreatDoor
