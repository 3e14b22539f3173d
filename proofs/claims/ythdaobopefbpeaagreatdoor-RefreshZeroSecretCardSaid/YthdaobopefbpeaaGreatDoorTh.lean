/- Closed facts of the program alone. -/
import Derived.Test.YthdaobopefbpeaaGreatDoorCards
import Derived.Test.YthdaobopefbpeaaGreatDoorTp3
namespace Go.Proofs.YthdaobopefbpeaaGreatDoor
open Go Gw
theorem O2:(fun (P:Program)=>(laidOutB P:Bool)) Tryz.prog=true:=by kernel_rfl
theorem O3:(fun (P:Program)=>(mapsRowed P:Bool)) Tryz.prog=true:=by kernel_rfl
theorem O4:(fun (P:Program)=>((P.stops == []):Bool)) Tryz.prog=true:=by kernel_rfl
theorem O5:(fun (P:Program)=>((P.stopKnobs == []):Bool)) Tryz.prog=true:=by kernel_rfl
theorem Og:(fun (P:Program)=>(P.stopsHeard:Bool)) Tryz.prog=true:=by kernel_rfl
end Go.Proofs.YthdaobopefbpeaaGreatDoor
