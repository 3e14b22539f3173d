/- Own words: short forms of the rules, for shorter texts. -/
import Derived.Test.YtkmbblnepjofaaaGreatDoorGw12
set_option linter.unusedVariables false
namespace Gw
open Go Gv
abbrev bx (b:Nat):Value:=.pointer (some ⟨b,0,none⟩)
abbrev iN (n:Nat):Value:=.int .i64 (n:Int)
abbrev uN (n:Nat):Value:=.int .u64 (n:Int)
section
variable {P:Program} {n:Nat} {Q:b7} {E:Env} {H:List aC} {ops:pp} {i:Nat} {x y:Code}
theorem Sq (h:WH P n x (nm P n y Q) E H):WH P n (.seq x y) Q E H:=uG h
theorem Rg {ar:Array Oper} {id:Nat} (h:WI P n ⟨ar,ar.toList⟩ 0 Q E H):WH P n (.region id ar false) Q E H:=rm h
theorem Sg {ar:Array Oper} {id:Nat} (h:WI P n ⟨ar,ar.toList⟩ 0 (nm P n y Q) E H):WH P n (.seq (.region id ar false) y) Q E H:=uG (rm h)
theorem Tn (h:WH P n y Q E H):QH (nm P n y Q) .normal E H:=qo h
theorem Ei (h:QH Q .normal E H) (hi:opAt ops i=none:=by kernel_rfl):WI P n ops i Q E H:=rn hi h
theorem En (h:WH P n y Q E H) (hi:opAt ops i=none:=by kernel_rfl):WI P n ops i (nm P n y Q) E H:=rn hi (qo h)
theorem Es {z:Code} (h:WH P n y (nm P n z Q) E H) (hi:opAt ops i=none:=by kernel_rfl):WI P n ops i (nm P n (.seq y z) Q) E H:=rn hi (qo (uG h))
theorem Eg {ar:Array Oper} {id:Nat} (h:WI P n ⟨ar,ar.toList⟩ 0 (nm P n y Q) E H) (hi:opAt ops i=none:=by kernel_rfl):WI P n ops i (nm P n (.seq (.region id ar false) y) Q) E H:=rn hi (qo (uG (rm h)))
theorem Er (h:QH Q .ret E H) (hi:opAt ops i=none:=by kernel_rfl):WI P n ops i (nm P n .ret Q) E H:=rn hi (qo (z2 h))
theorem Wr (h:QH Q .ret E H):WH P n .ret Q E H:=z2 h
theorem Ws (h:QH Q .normal E H):WH P n .skip Q E H:=xy h
theorem We {k:Nat} (h:QH Q (.exit k) E H):WH P n (.exit k) Q E H:=Cm h
theorem Wb {id:Nat} (h:WH P n x (mw id Q) E H):WH P n (.block id x) Q E H:=z1 h
theorem Tr (h:QH Q .ret E H):QH (nm P n y Q) .ret E H:=h
theorem Te {k:Nat} (h:QH Q (.exit k) E H):QH (nm P n y Q) (.exit k) E H:=h
theorem Bn {id:Nat} (h:QH Q .normal E H):QH (mw id Q) .normal E H:=h
theorem Br {id:Nat} (h:QH Q .ret E H):QH (mw id Q) .ret E H:=h
theorem Be {id:Nat} (h:QH Q .normal E H):QH (mw id Q) (.exit id) E H:=tc h
theorem Kb (t:Nat) {b c:Bool} (hb:b=c) (g:WI P n ops i Q (E.put t (.bool c)) H) (h:E.get t=.bool b:=by kernel_rfl):WI P n ops i Q E H:=GN hb h g
theorem Xt {c:Operand} {b:Bool} (hb:b=true) (ht:WH P n x Q E H) (hc:E.ev c=.bool b:=by kernel_rfl):WH P n (.cond c x y) Q E H:=dU hb hc ht
theorem Xf {c:Operand} {b:Bool} (hb:b=false) (ht:WH P n y Q E H) (hc:E.ev c=.bool b:=by kernel_rfl):WH P n (.cond c x y) Q E H:=bA hb hc ht
theorem Xs {c:Operand} {b:Bool} (hb:b=false) (ht:QH Q .normal E H) (hc:E.ev c=.bool b:=by kernel_rfl):WH P n (.cond c x .skip) Q E H:=bA hb hc (xy ht)
theorem Fe {f:FuncId} {l:List Value} {Pre Y:List aC} {X:Value} (js:List (Nat × Bool)) (hspec:Ct P f l Pre (fun v L=>v=X∧L=Y)) (hp:preO js H=some Pre) (hf:aZ P f=true)
    (g:WI P n ops (i+1) Q (E.putO (dM ops i) X) (Y++fH js H)) (h:dec n ops E i n0=some (f,l):=by kernel_rfl):WI P n ops i Q E H :=
  wv js hspec hp hf h (fun v L ⟨hv,hL⟩=>hv ▸ hL ▸ g)
theorem Fx {f:FuncId} {l:List Value} {Pre:List aC} {W:Type} {Y:W→List aC} {X:W→Value} (js:List (Nat × Bool)) (hspec:Ct P f l Pre (fun v L=>∃ w,v=X w∧L=Y w)) (hp:preO js H=some Pre) (hf:aZ P f=true)
    (g:∀ w,WI P n ops (i+1) Q (E.putO (dM ops i) (X w)) (Y w++fH js H)) (h:dec n ops E i n0=some (f,l):=by kernel_rfl):WI P n ops i Q E H :=
  wv js hspec hp hf h (fun v L ⟨w,hv,hL⟩=>hv ▸ hL ▸ g w)
theorem Ql {fn:Func} {F:List aC} {b7:Value→List aC→Prop} {L:List aC} (l:List Value) (js:List (Nat × Bool)) (k:Nat) (hp:b7 (one l) L:=by exact ⟨rfl,rfl⟩) (hr:tB E fn.results.toList=some l:=by kernel_rfl) (hj:preO js H=some L:=by kernel_rfl) (hF:(fH js H).drop k=F:=by kernel_rfl) :
    QH (xF P fn (Aj F b7)) .ret E H:=a5 js k hp (.inl rfl) hr hj hF
theorem Rh (H':List aC) (g:WI P n ops i Q E H') (e:H=H':=by kernel_rfl):WI P n ops i Q E H:=e ▸ g
end
theorem Sj {α:Type} {a b:α} (h:some a=some b):a=b:=Option.some.inj h
end Gw
