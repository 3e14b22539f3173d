/- Closed facts of the program alone. -/
import Derived.Test.YtpjenmchinpgaaaGreatDoorCards
import Derived.Test.YtpjenmchinpgaaaGreatDoorTp3
namespace Go.Proofs.YtpjenmchinpgaaaGreatDoor
open Go Gw
theorem Qj:(fun (P:Program)=>(laidOutB P:Bool)) Tryz.prog=true:=by kernel_rfl
theorem Qk:(fun (P:Program)=>(mapsRowed P:Bool)) Tryz.prog=true:=by kernel_rfl
theorem Qm:(fun (P:Program)=>((P.stops == []):Bool)) Tryz.prog=true:=by kernel_rfl
theorem Qn:(fun (P:Program)=>((P.stopKnobs == []):Bool)) Tryz.prog=true:=by kernel_rfl
theorem Pj:(fun (P:Program)=>(P.stopsHeard:Bool)) Tryz.prog=true:=by kernel_rfl
end Go.Proofs.YtpjenmchinpgaaaGreatDoor
