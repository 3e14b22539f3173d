/- Closed facts of a row, put together one by one. -/
import Derived.JoinedOf
import Derived.KernelRfl
set_option linter.unusedVariables false
namespace Gw
open Go
theorem ba {a b:Bool} (h:a=true) (g:b=true):(a && b)=true:=by rw [h,g];rfl
theorem tK (rest : List (List Char)) : stripLifts liftWords ("cut".toList :: rest) = ([], "cut".toList :: rest) := by kernel_rfl
theorem vX {P : Program} (h : (behindMainWord (wordsSigns P.initOrder.toList)).head? = some "cut".toList) : ∃ rest, behindMainWord (wordsSigns P.initOrder.toList) = "cut".toList :: rest := by
  cases e:behindMainWord (wordsSigns P.initOrder.toList) with
  | nil=>rw [e] at h;cases h
  | cons c rest=>rw [e] at h;exact ⟨rest,by rw [← Option.some.inj h]⟩
theorem vp {P : Program} (h : (behindMainWord (wordsSigns P.initOrder.toList)).head? = some "cut".toList) (h1 : P.laysLater = false) (h2 : P.bearsReflect = false) (h3 : P.doorFits [] = true) : P.mayEnter = true := by
  obtain ⟨rest,e⟩:=vX h
  unfold Program.mayEnter
  rw [e]
  simp only [tK,h1,h2,h3]
  simp
theorem B4 {P : Program} (h : (behindMainWord (wordsSigns P.initOrder.toList)).head? = some "cut".toList) : (P.make == some Make.cut) = true := by
  obtain ⟨rest,e⟩:=vX h
  unfold Program.make
  rw [e]
  have a : ("cut".toList == "gc".toList || "cut".toList == "spec".toList) = false := by decide
  have b : ("cut".toList == "cut".toList) = true := by decide
  simp only [a,b,Bool.true_or,if_true]
  rfl
theorem yZ {P : Program} (h : (behindMainWord (wordsSigns P.initOrder.toList)).head? = some "cut".toList) : (false == P.liftsFinal) = true := by
  obtain ⟨rest,e⟩:=vX h
  unfold Program.liftsFinal Program.headLifts
  rw [e]
  have a : (some "cut".toList == some "carried".toList) = false := by decide
  simp only [tK,List.head?_cons,a,Bool.false_and]
  simp
end Gw
