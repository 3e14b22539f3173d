/- Own words: maps that the call has made, keyed by integers. -/
import Derived.Test.YtahofpgjianhdaaGreatDoorGw8
import Derived.MapKept
set_option linter.unusedVariables false
namespace Gw
open Go Gv
section
variable {P:Program} {n:Nat} {Q:db} {E:Env} {H F:List aS} {ops:sf} {i:Nat}
end
end Gw
