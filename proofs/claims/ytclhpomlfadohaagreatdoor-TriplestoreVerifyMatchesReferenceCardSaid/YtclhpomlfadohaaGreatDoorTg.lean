/- Closed facts of the program alone. -/
import Derived.Test.YtclhpomlfadohaaGreatDoorCards
import Derived.Test.YtclhpomlfadohaaGreatDoorTp3
namespace Go.Proofs.YtclhpomlfadohaaGreatDoor
open Go Gw
theorem pf_looks : false = Tryz.prog.looks [] := by kernel_rfl
theorem pf_main : Tryz.prog.mainIs = some (true, "edc15a23c53a7fc9f45317f3427c69c6a3f241f658ee64b98341a694d144b755".toList) := by kernel_rfl
end Go.Proofs.YtclhpomlfadohaaGreatDoor
