/- Own words: maps that the call has made, keyed by integers. -/
import Derived.Test.YtahofpgjianhdaaGreatDoorGw8
import Derived.MapKept
set_option linter.unusedVariables false
namespace Gw
open Go Gv
section
variable {P:Program} {n:Nat} {Q:da} {E:Env} {H F:List aR} {ops:rE} {i:Nat}
end
end Gw
