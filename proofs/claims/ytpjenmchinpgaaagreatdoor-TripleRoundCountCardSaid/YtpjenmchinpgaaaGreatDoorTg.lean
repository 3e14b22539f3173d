/- Closed facts of the program alone. -/
import Derived.Test.YtpjenmchinpgaaaGreatDoorCards
import Derived.Test.YtpjenmchinpgaaaGreatDoorTp3
namespace Go.Proofs.YtpjenmchinpgaaaGreatDoor
open Go Gw
theorem Hc:false=Tryz.prog.looks []:=by kernel_rfl
theorem Kp : Tryz.prog.mainIs = some (true, "e2ad1b46d66589fd1320099ce90bc2556f02fc8d380b0d61ab7b9004b1e81e27".toList) := by kernel_rfl
end Go.Proofs.YtpjenmchinpgaaaGreatDoor
