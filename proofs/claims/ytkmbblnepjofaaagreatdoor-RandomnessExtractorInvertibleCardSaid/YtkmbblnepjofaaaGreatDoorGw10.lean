/- Own words: room made ahead (append of zeros onto nil), a prefix of an own slice. -/
import Derived.Test.YtkmbblnepjofaaaGreatDoorGw9
import Derived.Lib.AppendZeros
set_option linter.unusedVariables false
namespace Gw
open Go Gv
section
variable {P:Program} {n:Nat} {Q:b7} {E:Env} {H F:List aC} {ops:pp} {i:Nat}
end
end Gw
