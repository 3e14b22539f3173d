/- Closed facts of the program alone. -/
import Derived.Test.YtahofpgjianhdaaGreatDoorCards
import Derived.Test.YtahofpgjianhdaaGreatDoorTp3
namespace Go.Proofs.YtahofpgjianhdaaGreatDoor
open Go Gw
theorem CO:false=Tryz.prog.looks []:=by kernel_rfl
theorem Fo : Tryz.prog.mainIs = some (true, "54a06071e2c9ac4a59bf004b097d9bd6aae4a5a0dce0adb63097aaa15ca4d18f".toList) := by kernel_rfl
end Go.Proofs.YtahofpgjianhdaaGreatDoor
