/- Closed facts of the program alone. -/
import Derived.Test.YtpjenmchinpgaaaGreatDoorCards
import Derived.Test.YtpjenmchinpgaaaGreatDoorTp3
namespace Go.Proofs.YtpjenmchinpgaaaGreatDoor
open Go Gw
theorem Q8:(λ(P:Program)=>(laidOutB P:Bool)) Tryz.prog=true:=by kernel_rfl
theorem Q9:(λ(P:Program)=>(mapsRowed P:Bool)) Tryz.prog=true:=by kernel_rfl
theorem Ra:(λ(P:Program)=>((P.stops==[]):Bool)) Tryz.prog=true:=by kernel_rfl
theorem Rb:(λ(P:Program)=>((P.stopKnobs==[]):Bool)) Tryz.prog=true:=by kernel_rfl
theorem Qc:(λ(P:Program)=>(P.stopsHeard:Bool)) Tryz.prog=true:=by kernel_rfl
end Go.Proofs.YtpjenmchinpgaaaGreatDoor
