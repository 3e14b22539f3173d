/- Closed facts of the program alone. -/
import Derived.Test.YtahofpgjianhdaaGreatDoorCards
import Derived.Test.YtahofpgjianhdaaGreatDoorTp3
namespace Go.Proofs.YtahofpgjianhdaaGreatDoor
open Go Gw
theorem w0 : (behindMainWord (wordsSigns Tryz.prog.initOrder.toList)).head? = some "cut".toList := by kernel_rfl
theorem w1:Tryz.prog.laysLater=false:=by kernel_rfl
theorem w2:Tryz.prog.bearsReflect=false:=by kernel_rfl
theorem w3:Tryz.prog.doorFits []=true:=by kernel_rfl
theorem Fp:(Tryz.prog.make == some Make.cut)=true:=Fb w0
theorem Fj:(false == Tryz.prog.liftsFinal)=true:=Ck w0
theorem Kx:(fun (P:Program)=>(P.mayEnter:Bool)) Tryz.prog=true:=xG w0 w1 w2 w3
end Go.Proofs.YtahofpgjianhdaaGreatDoor
