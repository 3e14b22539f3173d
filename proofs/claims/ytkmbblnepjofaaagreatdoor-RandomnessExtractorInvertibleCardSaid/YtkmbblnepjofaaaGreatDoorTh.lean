/- Closed facts of the program alone. -/
import Derived.Test.YtkmbblnepjofaaaGreatDoorCards
import Derived.Test.YtkmbblnepjofaaaGreatDoorTp3
namespace Go.Proofs.YtkmbblnepjofaaaGreatDoor
open Go Gw
theorem Hd:(fun (P:Program)=>(laidOutB P:Bool)) Tryz.prog=true:=by kernel_rfl
theorem He:(fun (P:Program)=>(mapsRowed P:Bool)) Tryz.prog=true:=by kernel_rfl
theorem Hg:(fun (P:Program)=>((P.stops == []):Bool)) Tryz.prog=true:=by kernel_rfl
theorem Hh:(fun (P:Program)=>((P.stopKnobs == []):Bool)) Tryz.prog=true:=by kernel_rfl
theorem GB:(fun (P:Program)=>(P.stopsHeard:Bool)) Tryz.prog=true:=by kernel_rfl
end Go.Proofs.YtkmbblnepjofaaaGreatDoor
