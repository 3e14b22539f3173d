/- Own words: short forms of the rules that end an operation's proof. -/
import Derived.Test.YtkmbblnepjofaaaGreatDoorGw11
set_option linter.unusedVariables false
namespace Gw
open Go Gv
section
variable {P:Program} {n:Nat} {E:Env} {H F:List aC} {ops:pp} {j:Nat}
theorem tH (js:List (Nat × Bool)) (k:Nat) {L:List aC} (hj:preO js H=some L:=by kernel_rfl) (hF:(fH js H).drop k=F:=by kernel_rfl):gI H (L++F):=G5 hj hF
theorem aK {l:List (Nat × Value)} (h:(l.map (·.1)).map E.get=l.map (·.2):=by kernel_rfl):agree l E:=C1 h
theorem wE {L:List Oper} {vf:Gh→List Value} {pr:Nat→Gh→List aC} {i:Nat} {γ:Gh} {B:List aC} (x:Nat→Value) (js:List (Nat × Bool)) (k:Nat) (hi:opAt ops j=none:=by kernel_rfl) (hv:xw L i E=wD L i (vf (upd γ i x)):=by kernel_rfl)
    (hj:preO js H=some (pr i (upd γ i x)++B):=by kernel_rfl) (hF:(fH js H).drop k=F:=by kernel_rfl):WI P n ops j (Gr L vf pr i γ (B++F)) E H:=rn hi (GG x hv (GM hj hF))
abbrev uL:aC:=FV 0 [.int .i64 ((5:Nat):Int),.int .i64 ((7:Nat):Int),.int .i64 ((13:Nat):Int),.int .i64 ((17:Nat):Int),.int .i64 ((19:Nat):Int),.int .i64 ((31:Nat):Int),.int .i64 ((61:Nat):Int)]
end
theorem kr {α:Sort _} {a b:α} (h:a=b:=by kernel_rfl):a=b:=h
end Gw
