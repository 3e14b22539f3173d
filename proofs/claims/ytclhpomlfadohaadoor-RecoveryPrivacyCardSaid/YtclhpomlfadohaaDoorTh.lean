/- Closed facts of the program alone. -/
import Derived.Test.YtclhpomlfadohaaDoorCards
import Derived.Test.YtclhpomlfadohaaDoorTp3
namespace Go.Proofs.YtclhpomlfadohaaDoor
open Go Gw
theorem pf1 : (fun (P : Program) => (laidOutB P : Bool)) Tryd.prog = true := by kernel_rfl
theorem pf2 : (fun (P : Program) => (mapsRowed P : Bool)) Tryd.prog = true := by kernel_rfl
theorem pf6 : (fun (P : Program) => ((P.stops == []) : Bool)) Tryd.prog = true := by kernel_rfl
theorem pf8 : (fun (P : Program) => ((P.stopKnobs == []) : Bool)) Tryd.prog = true := by kernel_rfl
theorem pf24 : (fun (P : Program) => (P.stopsHeard : Bool)) Tryd.prog = true := by kernel_rfl
end Go.Proofs.YtclhpomlfadohaaDoor
