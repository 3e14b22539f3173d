/- Plain laws of opening shares: what the values are. -/
import Derived.Test.YtclhpomlfadohaaGreatDoorPb8
set_option linter.unusedVariables false
namespace Pu
open Gw Gl Sp Lean.Grind
end Pu
