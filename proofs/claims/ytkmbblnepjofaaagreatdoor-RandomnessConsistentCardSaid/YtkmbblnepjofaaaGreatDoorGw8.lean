/- Own words: rows that become ours one by one; rows that change places. -/
import Derived.Test.YtkmbblnepjofaaaGreatDoorGw7
set_option linter.unusedVariables false
namespace Gw
open Go Gv
section
variable {P:Program} {n:Nat} {Q:cI} {E:Env} {H F:List aA} {ops:qR} {i:Nat}
end
end Gw
