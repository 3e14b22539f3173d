/- Closed facts of the program alone. -/
import Derived.Test.YtkmbblnepjofaaaGreatDoorCards
import Derived.Test.YtkmbblnepjofaaaGreatDoorTp3
namespace Go.Proofs.YtkmbblnepjofaaaGreatDoor
open Go Gw
theorem MH:(fun (P:Program)=>(laidOutB P:Bool)) Tryz.prog=true:=by kernel_rfl
theorem MI:(fun (P:Program)=>(mapsRowed P:Bool)) Tryz.prog=true:=by kernel_rfl
theorem MJ:(fun (P:Program)=>((P.stops == []):Bool)) Tryz.prog=true:=by kernel_rfl
theorem MK:(fun (P:Program)=>((P.stopKnobs == []):Bool)) Tryz.prog=true:=by kernel_rfl
theorem L3:(fun (P:Program)=>(P.stopsHeard:Bool)) Tryz.prog=true:=by kernel_rfl
end Go.Proofs.YtkmbblnepjofaaaGreatDoor
