/- Plain laws of chapter 19: the values of rows of a symmetric matrix. -/
import Derived.Test.YtkmbblnepjofaaaGreatDoorPi
set_option linter.unusedVariables false
namespace Pu
open Gw Gl Sp
section
variable {p:Nat} [NeZero p]
end
end Pu

/- Plain laws of chapter 19: the second round, and the flags of a party. -/
set_option linter.unusedVariables false
namespace Pu
open Gw Gl Sp
/-- who sends what it should: the honest ones, and all if nobody deviates -/
def Hn (w:ac) (i:Nat):Prop:=(((i:Nat):Int)+1) ∉ w.ae ∨ w.aa=[]
theorem vo {α:Type} {n i:Nat} {v:Nat→α} {d:α} (h:i < n):((List.range n).map v).getD i d=v i:=by
  rw [List.getD_eq_getElem?_getD,List.getElem?_map,List.getElem?_range h];rfl
section
variable {p:Nat} [NeZero p] {n t:Nat} {m:Nat→Nat}
end
end Pu

/- Plain laws of chapter 19: the third round, and the whole first half. -/
set_option linter.unusedVariables false
namespace Pu
open Gw Gl Sp
section
variable {p:Nat} [NeZero p] {n t:Nat} {m:Nat→Nat}
end
end Pu

/- Plain laws of chapter 19: the disputed pairs, the dealers' answers. -/
set_option linter.unusedVariables false
namespace Pu
open Gw Gl Sp
theorem getD_in {α:Type} {l:List α} {q:Nat} {d:α} (h:q < l.length):l.getD q d ∈ l:=by
  rw [List.getD_eq_getElem?_getD,List.getElem?_eq_getElem h];exact List.getElem_mem h
section
variable {p:Nat} [NeZero p] {n t:Nat}
end
end Pu

/- Plain laws of chapter 19: accusations, votes. -/
set_option linter.unusedVariables false
namespace Pu
open Gw Gl Sp
section
variable {p:Nat} [NeZero p] {n t:Nat}
end
end Pu
