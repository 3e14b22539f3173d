/- Own words: short forms of the rules, for shorter texts. -/
import Derived.Test.YtpjenmchinpgaaaGreatDoorGw12
set_option linter.unusedVariables false
namespace Gw
open Go Gv
abbrev bx (b:Nat):Value:=.pointer (some ⟨b,0,none⟩)
abbrev iN (n:Nat):Value:=.int .i64 (n:Int)
abbrev uN (n:Nat):Value:=.int .u64 (n:Int)
section
variable {P:Program} {n:Nat} {Q:cM} {E:Env} {H:List aF} {ops:sO} {i:Nat} {x y:Code}
theorem Sq (h:WH P n x (rF P n y Q) E H):WH P n (.seq x y) Q E H:=Ao h
theorem Rg {ar:Array Oper} {id:Nat} (h:WI P n ⟨ar,ar.toList⟩ 0 Q E H):WH P n (.region id ar false) Q E H:=wu h
theorem Sg {ar:Array Oper} {id:Nat} (h:WI P n ⟨ar,ar.toList⟩ 0 (rF P n y Q) E H):WH P n (.seq (.region id ar false) y) Q E H:=Ao (wu h)
theorem Tn (h:WH P n y Q E H):QH (rF P n y Q) .normal E H:=vr h
theorem Ei (h:QH Q .normal E H) (hi:opAt ops i=none:=by kernel_rfl):WI P n ops i Q E H:=wv hi h
theorem En (h:WH P n y Q E H) (hi:opAt ops i=none:=by kernel_rfl):WI P n ops i (rF P n y Q) E H:=wv hi (vr h)
theorem Es {z:Code} (h:WH P n y (rF P n z Q) E H) (hi:opAt ops i=none:=by kernel_rfl):WI P n ops i (rF P n (.seq y z) Q) E H:=wv hi (vr (Ao h))
theorem Eg {ar:Array Oper} {id:Nat} (h:WI P n ⟨ar,ar.toList⟩ 0 (rF P n y Q) E H) (hi:opAt ops i=none:=by kernel_rfl):WI P n ops i (rF P n (.seq (.region id ar false) y) Q) E H:=wv hi (vr (Ao (wu h)))
theorem Er (h:QH Q .ret E H) (hi:opAt ops i=none:=by kernel_rfl):WI P n ops i (rF P n .ret Q) E H:=wv hi (vr (Ho h))
theorem Wr (h:QH Q .ret E H):WH P n .ret Q E H:=Ho h
theorem Ws (h:QH Q .normal E H):WH P n .skip Q E H:=Dy h
theorem We {k:Nat} (h:QH Q (.exit k) E H):WH P n (.exit k) Q E H:=J9 h
theorem Wb {id:Nat} (h:WH P n x (sT id Q) E H):WH P n (.block id x) Q E H:=Hm h
theorem Tr (h:QH Q .ret E H):QH (rF P n y Q) .ret E H:=h
theorem Te {k:Nat} (h:QH Q (.exit k) E H):QH (rF P n y Q) (.exit k) E H:=h
theorem Bn {id:Nat} (h:QH Q .normal E H):QH (sT id Q) .normal E H:=h
theorem Br {id:Nat} (h:QH Q .ret E H):QH (sT id Q) .ret E H:=h
theorem Be {id:Nat} (h:QH Q .normal E H):QH (sT id Q) (.exit id) E H:=yw h
theorem Kb (t:Nat) {b c:Bool} (hb:b=c) (g:WI P n ops i Q (E.put t (.bool c)) H) (h:E.get t=.bool b:=by kernel_rfl):WI P n ops i Q E H:=PG hb h g
theorem Xt {c:Operand} {b:Bool} (hb:b=true) (ht:WH P n x Q E H) (hc:E.ev c=.bool b:=by kernel_rfl):WH P n (.cond c x y) Q E H:=dP hb hc ht
theorem Xf {c:Operand} {b:Bool} (hb:b=false) (ht:WH P n y Q E H) (hc:E.ev c=.bool b:=by kernel_rfl):WH P n (.cond c x y) Q E H:=cU hb hc ht
theorem Xs {c:Operand} {b:Bool} (hb:b=false) (ht:QH Q .normal E H) (hc:E.ev c=.bool b:=by kernel_rfl):WH P n (.cond c x .skip) Q E H:=cU hb hc (Dy ht)
theorem Fe {f:FuncId} {l:List Value} {Pre Y:List aF} {X:Value} (js:List (Nat × Bool)) (hspec:Ct P f l Pre (fun v L=>v=X∧L=Y)) (hp:preO js H=some Pre) (hf:bz P f=true)
    (g:WI P n ops (i+1) Q (E.putO (eM ops i) X) (Y++jD js H)) (h:dec n ops E i sy=some (f,l):=by kernel_rfl):WI P n ops i Q E H :=
  Cz js hspec hp hf h (fun v L ⟨hv,hL⟩=>hv ▸ hL ▸ g)
theorem Fx {f:FuncId} {l:List Value} {Pre:List aF} {W:Type} {Y:W→List aF} {X:W→Value} (js:List (Nat × Bool)) (hspec:Ct P f l Pre (fun v L=>∃ w,v=X w∧L=Y w)) (hp:preO js H=some Pre) (hf:bz P f=true)
    (g:∀ w,WI P n ops (i+1) Q (E.putO (eM ops i) (X w)) (Y w++jD js H)) (h:dec n ops E i sy=some (f,l):=by kernel_rfl):WI P n ops i Q E H :=
  Cz js hspec hp hf h (fun v L ⟨w,hv,hL⟩=>hv ▸ hL ▸ g w)
theorem Ql {fn:Func} {F:List aF} {cM:Value→List aF→Prop} {L:List aF} (l:List Value) (js:List (Nat × Bool)) (k:Nat) (hp:cM (one l) L:=by exact ⟨rfl,rfl⟩) (hr:yR E fn.results.toList=some l:=by kernel_rfl) (hj:preO js H=some L:=by kernel_rfl) (hF:(jD js H).drop k=F:=by kernel_rfl) :
    QH (AP P fn (BN F cM)) .ret E H:=bB js k hp (.inl rfl) hr hj hF
theorem Rh (H':List aF) (g:WI P n ops i Q E H') (e:H=H':=by kernel_rfl):WI P n ops i Q E H:=e ▸ g
end
theorem Sj {α:Type} {a b:α} (h:some a=some b):a=b:=Option.some.inj h
end Gw
