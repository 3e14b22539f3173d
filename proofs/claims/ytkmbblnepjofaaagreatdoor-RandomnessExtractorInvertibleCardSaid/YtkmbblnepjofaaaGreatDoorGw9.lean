/- Own words: maps that the call has made, keyed by integers. -/
import Derived.Test.YtkmbblnepjofaaaGreatDoorGw8
import Derived.MapKept
set_option linter.unusedVariables false
namespace Gw
open Go Gv
section
variable {P:Program} {n:Nat} {Q:b7} {E:Env} {H F:List aC} {ops:pp} {i:Nat}
end
end Gw
