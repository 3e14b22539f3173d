/- Closed facts of the program alone. -/
import Derived.Test.YthdaobopefbpeaaGreatDoorCards
import Derived.Test.YthdaobopefbpeaaGreatDoorTp3
namespace Go.Proofs.YthdaobopefbpeaaGreatDoor
open Go Gw
theorem Gk:false=Tryz.prog.looks []:=by kernel_rfl
theorem JK : Tryz.prog.mainIs = some (true, "c50bb092a4548bf55711e292c2d5b4d32e6f1ba79cbcab8b9b3c69cfcd11c3b3".toList) := by kernel_rfl
end Go.Proofs.YthdaobopefbpeaaGreatDoor
