/- Own words: room made ahead (append of zeros onto nil), a prefix of an own slice. -/
import Derived.Test.YtahofpgjianhdaaGreatDoorGw9
import Derived.Lib.AppendZeros
set_option linter.unusedVariables false
namespace Gw
open Go Gv
section
variable {P:Program} {n:Nat} {Q:da} {E:Env} {H F:List aR} {ops:rE} {i:Nat}
end
end Gw
