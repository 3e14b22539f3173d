/- Closed facts of the program alone. -/
import Derived.Test.YtclhpomlfadohaaDoorCards
import Derived.Test.YtclhpomlfadohaaDoorTp3
namespace Go.Proofs.YtclhpomlfadohaaDoor
open Go Gw
theorem pf_looks : false = Tryd.prog.looks [] := by kernel_rfl
theorem pf_main : Tryd.prog.mainIs = some (true, "88dc6ba6eaf6f4a5246ba1c8673511f05a8ad9fa8ac89fc3c20275582183e15b".toList) := by kernel_rfl
end Go.Proofs.YtclhpomlfadohaaDoor
