/- Plain laws of chapter 20: opening rows as the reference does. -/
import Derived.Test.YtclhpomlfadohaaGreatDoorPh3
import Derived.Test.YtclhpomlfadohaaGreatDoorPh4
set_option linter.unusedVariables false
namespace Pu
open Gw Gl Sp Lean.Grind
end Pu
