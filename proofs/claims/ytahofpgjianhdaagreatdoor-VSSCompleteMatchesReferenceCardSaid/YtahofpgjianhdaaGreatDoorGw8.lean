/- Own words: rows that become ours one by one; rows that change places. -/
import Derived.Test.YtahofpgjianhdaaGreatDoorGw7
set_option linter.unusedVariables false
namespace Gw
open Go Gv
section
variable {P:Program} {n:Nat} {Q:da} {E:Env} {H F:List aR} {ops:rE} {i:Nat}
end
end Gw
