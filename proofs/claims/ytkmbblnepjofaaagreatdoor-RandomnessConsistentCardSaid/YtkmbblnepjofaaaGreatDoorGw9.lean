/- Own words: maps that the call has made, keyed by integers. -/
import Derived.Test.YtkmbblnepjofaaaGreatDoorGw8
import Derived.MapKept
set_option linter.unusedVariables false
namespace Gw
open Go Gv
section
variable {P:Program} {n:Nat} {Q:cI} {E:Env} {H F:List aA} {ops:qR} {i:Nat}
end
end Gw
