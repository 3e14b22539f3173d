/- Own words: short forms of the rules, for shorter texts. -/
import Derived.Test.YtkmbblnepjofaaaGreatDoorGw12
set_option linter.unusedVariables false
namespace Gw
open Go Gv
abbrev bx (b:Nat):Value:=.pointer (some ⟨b,0,none⟩)
abbrev iN (n:Nat):Value:=.int .i64 (n:Int)
abbrev uN (n:Nat):Value:=.int .u64 (n:Int)
section
variable {P:Program} {n:Nat} {Q:c9} {E:Env} {H:List aD} {ops:sn} {i:Nat} {x y:Code}
theorem Sq (h:WH P n x (qj P n y Q) E H):WH P n (.seq x y) Q E H:=xJ h
theorem Rg {ar:Array Oper} {id:Nat} (h:WI P n ⟨ar,ar.toList⟩ 0 Q E H):WH P n (.region id ar false) Q E H:=ut h
theorem Sg {ar:Array Oper} {id:Nat} (h:WI P n ⟨ar,ar.toList⟩ 0 (qj P n y Q) E H):WH P n (.seq (.region id ar false) y) Q E H:=xJ (ut h)
theorem Tn (h:WH P n y Q E H):QH (qj P n y Q) .normal E H:=tB h
theorem Ei (h:QH Q .normal E H) (hi:opAt ops i=none:=by kernel_rfl):WI P n ops i Q E H:=uu hi h
theorem En (h:WH P n y Q E H) (hi:opAt ops i=none:=by kernel_rfl):WI P n ops i (qj P n y Q) E H:=uu hi (tB h)
theorem Es {z:Code} (h:WH P n y (qj P n z Q) E H) (hi:opAt ops i=none:=by kernel_rfl):WI P n ops i (qj P n (.seq y z) Q) E H:=uu hi (tB (xJ h))
theorem Eg {ar:Array Oper} {id:Nat} (h:WI P n ⟨ar,ar.toList⟩ 0 (qj P n y Q) E H) (hi:opAt ops i=none:=by kernel_rfl):WI P n ops i (qj P n (.seq (.region id ar false) y) Q) E H:=uu hi (tB (xJ (ut h)))
theorem Er (h:QH Q .ret E H) (hi:opAt ops i=none:=by kernel_rfl):WI P n ops i (qj P n .ret Q) E H:=uu hi (tB (Ex h))
theorem Wr (h:QH Q .ret E H):WH P n .ret Q E H:=Ex h
theorem Ws (h:QH Q .normal E H):WH P n .skip Q E H:=Bf h
theorem We {k:Nat} (h:QH Q (.exit k) E H):WH P n (.exit k) Q E H:=Hr h
theorem Wb {id:Nat} (h:WH P n x (ri id Q) E H):WH P n (.block id x) Q E H:=Ew h
theorem Tr (h:QH Q .ret E H):QH (qj P n y Q) .ret E H:=h
theorem Te {k:Nat} (h:QH Q (.exit k) E H):QH (qj P n y Q) (.exit k) E H:=h
theorem Bn {id:Nat} (h:QH Q .normal E H):QH (ri id Q) .normal E H:=h
theorem Br {id:Nat} (h:QH Q .ret E H):QH (ri id Q) .ret E H:=h
theorem Be {id:Nat} (h:QH Q .normal E H):QH (ri id Q) (.exit id) E H:=wg h
theorem Kb (t:Nat) {b c:Bool} (hb:b=c) (g:WI P n ops i Q (E.put t (.bool c)) H) (h:E.get t=.bool b:=by kernel_rfl):WI P n ops i Q E H:=Mg hb h g
theorem Xt {c:Operand} {b:Bool} (hb:b=true) (ht:WH P n x Q E H) (hc:E.ev c=.bool b:=by kernel_rfl):WH P n (.cond c x y) Q E H:=eP hb hc ht
theorem Xf {c:Operand} {b:Bool} (hb:b=false) (ht:WH P n y Q E H) (hc:E.ev c=.bool b:=by kernel_rfl):WH P n (.cond c x y) Q E H:=dp hb hc ht
theorem Xs {c:Operand} {b:Bool} (hb:b=false) (ht:QH Q .normal E H) (hc:E.ev c=.bool b:=by kernel_rfl):WH P n (.cond c x .skip) Q E H:=dp hb hc (Bf ht)
theorem Fe {f:FuncId} {l:List Value} {Pre Y:List aD} {X:Value} (js:List (Nat × Bool)) (hspec:Ct P f l Pre (fun v L=>v=X∧L=Y)) (hp:preO js H=some Pre) (hf:bk P f=true)
    (g:WI P n ops (i+1) Q (E.putO (fy ops i) X) (Y++jh js H)) (h:dec n ops E i qR=some (f,l):=by kernel_rfl):WI P n ops i Q E H :=
  zW js hspec hp hf h (fun v L ⟨hv,hL⟩=>hv ▸ hL ▸ g)
theorem Fx {f:FuncId} {l:List Value} {Pre:List aD} {W:Type} {Y:W→List aD} {X:W→Value} (js:List (Nat × Bool)) (hspec:Ct P f l Pre (fun v L=>∃ w,v=X w∧L=Y w)) (hp:preO js H=some Pre) (hf:bk P f=true)
    (g:∀ w,WI P n ops (i+1) Q (E.putO (fy ops i) (X w)) (Y w++jh js H)) (h:dec n ops E i qR=some (f,l):=by kernel_rfl):WI P n ops i Q E H :=
  zW js hspec hp hf h (fun v L ⟨w,hv,hL⟩=>hv ▸ hL ▸ g w)
theorem Ql {fn:Func} {F:List aD} {c9:Value→List aD→Prop} {L:List aD} (l:List Value) (js:List (Nat × Bool)) (k:Nat) (hp:c9 (one l) L:=by exact ⟨rfl,rfl⟩) (hr:wA E fn.results.toList=some l:=by kernel_rfl) (hj:preO js H=some L:=by kernel_rfl) (hF:(jh js H).drop k=F:=by kernel_rfl) :
    QH (Bv P fn (EQ F c9)) .ret E H:=bl js k hp (.inl rfl) hr hj hF
theorem Rh (H':List aD) (g:WI P n ops i Q E H') (e:H=H':=by kernel_rfl):WI P n ops i Q E H:=e ▸ g
end
theorem Sj {α:Type} {a b:α} (h:some a=some b):a=b:=Option.some.inj h
end Gw
