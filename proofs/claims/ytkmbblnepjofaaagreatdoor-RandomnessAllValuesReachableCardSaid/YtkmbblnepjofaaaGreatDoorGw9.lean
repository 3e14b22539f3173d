/- Own words: maps that the call has made, keyed by integers. -/
import Derived.Test.YtkmbblnepjofaaaGreatDoorGw8
import Derived.MapKept
set_option linter.unusedVariables false
namespace Gw
open Go Gv
section
variable {P:Program} {n:Nat} {Q:c9} {E:Env} {H F:List aD} {ops:sn} {i:Nat}
end
end Gw
