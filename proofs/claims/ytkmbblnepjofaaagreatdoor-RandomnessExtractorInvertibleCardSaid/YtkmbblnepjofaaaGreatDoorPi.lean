/- Plain laws of chapter 19: the network with tapes, broadcasts. -/
import Derived.Test.YtkmbblnepjofaaaGreatDoorPb
import Derived.KernelRfl
set_option linter.unusedVariables false
namespace Pu
open Gw Gl Sp
/-- a loop that appends -/
theorem qq {α:Type} {body:Nat→List α→Option (List α)} (v:Nat→α):∀ {n:Nat},(∀ j l,j < n→l.length=j→body j l=some (l++[v j]))→ea body n 0 []=some ((List.range n).map v):=fun {n} h=>by
  obtain ⟨r,e,h2⟩:=jz (body:=body) (fun k l=>l=(List.range k).map v) (rem:=n) (k:=0) (s:=[]) rfl (fun j l _ hj hl=>by
    subst hl
    exact ⟨_,h j _ (by omega) (by simp),by rw [List.range_succ,List.map_append];rfl⟩)
  rw [e,h2,Nat.zero_add]
end Pu

/- Plain laws of chapter 19: matrices and their rows. -/
set_option linter.unusedVariables false
namespace Pu
open Gw Gl Sp
section
variable {p:Nat} [NeZero p]
end
end Pu

/- Plain laws of chapter 19: the dealers choose their matrices. -/
set_option linter.unusedVariables false
namespace Pu
open Gw Gl Sp
/-- where the tapes stand -/
structure Gg (n:Nat) (T:List aJ) (tp:Nat→List Nat) (ps:Nat→Nat):Prop where
  len:T.length=n
  at_:∀ i,i < n→T.getD i ⟨[],0⟩=⟨tp i,((ps i:Nat):Int)⟩
  le:∀ i,i < n→ps i≤(tp i).length∧(tp i).length≤1000
/-- what is left of the tapes -/
def rem (n:Nat) (tp:Nat→List Nat) (ps:Nat→Nat):List (List Nat):=(List.range n).map fun i=>(tp i).drop (ps i)
end Pu

/- Plain laws of chapter 19: rows in one list. -/
set_option linter.unusedVariables false
namespace Pu
open Gw Gl Sp
end Pu

/- Plain laws of chapter 19: the rows that arrive. -/
set_option linter.unusedVariables false
namespace Pu
open Gw Gl Sp
end Pu

/- Plain laws of chapter 19: the first round. -/
set_option linter.unusedVariables false
namespace Pu
open Gw Gl Sp
end Pu

/- Plain laws of chapter 19: values of rows. -/
set_option linter.unusedVariables false
namespace Pu
open Gw Gl Sp
end Pu
