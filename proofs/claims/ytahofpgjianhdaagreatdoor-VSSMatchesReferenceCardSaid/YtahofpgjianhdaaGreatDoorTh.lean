/- Closed facts of the program alone. -/
import Derived.Test.YtahofpgjianhdaaGreatDoorCards
import Derived.Test.YtahofpgjianhdaaGreatDoorTp3
namespace Go.Proofs.YtahofpgjianhdaaGreatDoor
open Go Gw
theorem LJ:(fun (P:Program)=>(laidOutB P:Bool)) Tryz.prog=true:=by kernel_rfl
theorem LK:(fun (P:Program)=>(mapsRowed P:Bool)) Tryz.prog=true:=by kernel_rfl
theorem LL:(fun (P:Program)=>((P.stops == []):Bool)) Tryz.prog=true:=by kernel_rfl
theorem LM:(fun (P:Program)=>((P.stopKnobs == []):Bool)) Tryz.prog=true:=by kernel_rfl
theorem K5:(fun (P:Program)=>(P.stopsHeard:Bool)) Tryz.prog=true:=by kernel_rfl
end Go.Proofs.YtahofpgjianhdaaGreatDoor
