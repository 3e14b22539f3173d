/- Own words: short forms of the rules, for shorter texts. -/
import Derived.Test.YtkmbblnepjofaaaGreatDoorGw12
set_option linter.unusedVariables false
namespace Gw
open Go Gv
abbrev bx (b:Nat):Value:=.pointer (some ⟨b,0,none⟩)
abbrev iN (n:Nat):Value:=.int .i64 (n:Int)
abbrev uN (n:Nat):Value:=.int .u64 (n:Int)
section
variable {P:Program} {n:Nat} {Q:cI} {E:Env} {H:List aA} {ops:qR} {i:Nat} {x y:Code}
theorem Sq (h:WH P n x (oT P n y Q) E H):WH P n (.seq x y) Q E H:=vY h
theorem Rg {ar:Array Oper} {id:Nat} (h:WI P n ⟨ar,ar.toList⟩ 0 Q E H):WH P n (.region id ar false) Q E H:=sX h
theorem Sg {ar:Array Oper} {id:Nat} (h:WI P n ⟨ar,ar.toList⟩ 0 (oT P n y Q) E H):WH P n (.seq (.region id ar false) y) Q E H:=vY (sX h)
theorem Tn (h:WH P n y Q E H):QH (oT P n y Q) .normal E H:=si h
theorem Ei (h:QH Q .normal E H) (hi:opAt ops i=none:=by kernel_rfl):WI P n ops i Q E H:=sY hi h
theorem En (h:WH P n y Q E H) (hi:opAt ops i=none:=by kernel_rfl):WI P n ops i (oT P n y Q) E H:=sY hi (si h)
theorem Es {z:Code} (h:WH P n y (oT P n z Q) E H) (hi:opAt ops i=none:=by kernel_rfl):WI P n ops i (oT P n (.seq y z) Q) E H:=sY hi (si (vY h))
theorem Eg {ar:Array Oper} {id:Nat} (h:WI P n ⟨ar,ar.toList⟩ 0 (oT P n y Q) E H) (hi:opAt ops i=none:=by kernel_rfl):WI P n ops i (oT P n (.seq (.region id ar false) y) Q) E H:=sY hi (si (vY (sX h)))
theorem Er (h:QH Q .ret E H) (hi:opAt ops i=none:=by kernel_rfl):WI P n ops i (oT P n .ret Q) E H:=sY hi (si (Cx h))
theorem Wr (h:QH Q .ret E H):WH P n .ret Q E H:=Cx h
theorem Ws (h:QH Q .normal E H):WH P n .skip Q E H:=zD h
theorem We {k:Nat} (h:QH Q (.exit k) E H):WH P n (.exit k) Q E H:=Fv h
theorem Wb {id:Nat} (h:WH P n x (p6 id Q) E H):WH P n (.block id x) Q E H:=Cw h
theorem Tr (h:QH Q .ret E H):QH (oT P n y Q) .ret E H:=h
theorem Te {k:Nat} (h:QH Q (.exit k) E H):QH (oT P n y Q) (.exit k) E H:=h
theorem Bn {id:Nat} (h:QH Q .normal E H):QH (p6 id Q) .normal E H:=h
theorem Br {id:Nat} (h:QH Q .ret E H):QH (p6 id Q) .ret E H:=h
theorem Be {id:Nat} (h:QH Q .normal E H):QH (p6 id Q) (.exit id) E H:=uQ h
theorem Kb (t:Nat) {b c:Bool} (hb:b=c) (g:WI P n ops i Q (E.put t (.bool c)) H) (h:E.get t=.bool b:=by kernel_rfl):WI P n ops i Q E H:=Kl hb h g
theorem Xt {c:Operand} {b:Bool} (hb:b=true) (ht:WH P n x Q E H) (hc:E.ev c=.bool b:=by kernel_rfl):WH P n (.cond c x y) Q E H:=eX hb hc ht
theorem Xf {c:Operand} {b:Bool} (hb:b=false) (ht:WH P n y Q E H) (hc:E.ev c=.bool b:=by kernel_rfl):WH P n (.cond c x y) Q E H:=cY hb hc ht
theorem Xs {c:Operand} {b:Bool} (hb:b=false) (ht:QH Q .normal E H) (hc:E.ev c=.bool b:=by kernel_rfl):WH P n (.cond c x .skip) Q E H:=cY hb hc (zD ht)
theorem Fe {f:FuncId} {l:List Value} {Pre Y:List aA} {X:Value} (js:List (Nat × Bool)) (hspec:Ct P f l Pre (fun v L=>v=X∧L=Y)) (hp:preO js H=some Pre) (hf:bf P f=true)
    (g:WI P n ops (i+1) Q (E.putO (fk ops i) X) (Y++iL js H)) (h:dec n ops E i pE=some (f,l):=by kernel_rfl):WI P n ops i Q E H :=
  yf js hspec hp hf h (fun v L ⟨hv,hL⟩=>hv ▸ hL ▸ g)
theorem Fx {f:FuncId} {l:List Value} {Pre:List aA} {W:Type} {Y:W→List aA} {X:W→Value} (js:List (Nat × Bool)) (hspec:Ct P f l Pre (fun v L=>∃ w,v=X w∧L=Y w)) (hp:preO js H=some Pre) (hf:bf P f=true)
    (g:∀ w,WI P n ops (i+1) Q (E.putO (fk ops i) (X w)) (Y w++iL js H)) (h:dec n ops E i pE=some (f,l):=by kernel_rfl):WI P n ops i Q E H :=
  yf js hspec hp hf h (fun v L ⟨w,hv,hL⟩=>hv ▸ hL ▸ g w)
theorem Ql {fn:Func} {F:List aA} {cI:Value→List aA→Prop} {L:List aA} (l:List Value) (js:List (Nat × Bool)) (k:Nat) (hp:cI (one l) L:=by exact ⟨rfl,rfl⟩) (hr:u7 E fn.results.toList=some l:=by kernel_rfl) (hj:preO js H=some L:=by kernel_rfl) (hF:(iL js H).drop k=F:=by kernel_rfl) :
    QH (zN P fn (CR F cI)) .ret E H:=bg js k hp (.inl rfl) hr hj hF
theorem Rh (H':List aA) (g:WI P n ops i Q E H') (e:H=H':=by kernel_rfl):WI P n ops i Q E H:=e ▸ g
end
theorem Sj {α:Type} {a b:α} (h:some a=some b):a=b:=Option.some.inj h
end Gw
