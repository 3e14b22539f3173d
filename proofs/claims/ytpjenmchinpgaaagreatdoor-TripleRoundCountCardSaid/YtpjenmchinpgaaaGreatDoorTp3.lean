/- Closed facts of a row, put together one by one. -/
import Derived.JoinedOf
import Derived.KernelRfl
set_option linter.unusedVariables false
namespace Gw
open Go
theorem ba{a b:Bool}(h:a=true)(g:b=true):(a&&b)=true:=by rw[h,g];rfl
theorem zH (rest : List (List Char)) : stripLifts liftWords ("cut".toList :: rest) = ([], "cut".toList :: rest) := by kernel_rfl
theorem Cv {P : Program} (h : (behindMainWord (wordsSigns P.initOrder.toList)).head? = some "cut".toList) : ∃ rest, behindMainWord (wordsSigns P.initOrder.toList) = "cut".toList :: rest := by
  cases e:behindMainWord (wordsSigns P.initOrder.toList) with
  | nil=>rw [e] at h;cases h
  | cons c rest=>rw [e] at h;exact ⟨rest,by rw [← Option.some.inj h]⟩
theorem BN {P : Program} (h : (behindMainWord (wordsSigns P.initOrder.toList)).head? = some "cut".toList) (h1 : P.laysLater = false) (h2 : P.bearsReflect = false) (h3 : P.doorFits [] = true) : P.mayEnter = true := by
  obtain ⟨rest,e⟩:=Cv h
  unfold Program.mayEnter
  rw [e]
  simp only [zH,h1,h2,h3]
  simp
theorem Kf {P : Program} (h : (behindMainWord (wordsSigns P.initOrder.toList)).head? = some "cut".toList) : (P.make == some Make.cut) = true := by
  obtain ⟨rest,e⟩:=Cv h
  unfold Program.make
  rw [e]
  have a : ("cut".toList == "gc".toList || "cut".toList == "spec".toList) = false := by decide
  have b : ("cut".toList == "cut".toList) = true := by decide
  simp only [a,b,Bool.true_or,if_true]
  rfl
theorem GE {P : Program} (h : (behindMainWord (wordsSigns P.initOrder.toList)).head? = some "cut".toList) : (false == P.liftsFinal) = true := by
  obtain ⟨rest,e⟩:=Cv h
  unfold Program.liftsFinal Program.headLifts
  rw [e]
  have a : (some "cut".toList == some "carried".toList) = false := by decide
  simp only [zH,List.head?_cons,a,Bool.false_and]
  simp
end Gw
