/- Closed facts of the program alone. -/
import Derived.Test.YtkmbblnepjofaaaGreatDoorCards
import Derived.Test.YtkmbblnepjofaaaGreatDoorTp3
namespace Go.Proofs.YtkmbblnepjofaaaGreatDoor
open Go Gw
theorem zv:false=Tryz.prog.looks []:=by kernel_rfl
theorem Ca : Tryz.prog.mainIs = some (true, "00ae26d82973f8a5081b5b0fd7e1a56d18a2d4d51fce708aed4c10fa7199e597".toList) := by kernel_rfl
end Go.Proofs.YtkmbblnepjofaaaGreatDoor
