/- Own words: short forms of the rules, for shorter texts. -/
import Derived.Test.YthdaobopefbpeaaGreatDoorGw12
set_option linter.unusedVariables false
namespace Gw
open Go Gv
abbrev bx (b:Nat):Value:=.pointer (some ⟨b,0,none⟩)
abbrev iN (n:Nat):Value:=.int .i64 (n:Int)
abbrev uN (n:Nat):Value:=.int .u64 (n:Int)
section
variable {P:Program} {n:Nat} {Q:dj} {E:Env} {H:List aO} {ops:s7} {i:Nat} {x y:Code}
theorem Sq (h:WH P n x (qR P n y Q) E H):WH P n (.seq x y) Q E H:=zT h
theorem Rg {ar:Array Oper} {id:Nat} (h:WI P n ⟨ar,ar.toList⟩ 0 Q E H):WH P n (.region id ar false) Q E H:=wx h
theorem Sg {ar:Array Oper} {id:Nat} (h:WI P n ⟨ar,ar.toList⟩ 0 (qR P n y Q) E H):WH P n (.seq (.region id ar false) y) Q E H:=zT (wx h)
theorem Tn (h:WH P n y Q E H):QH (qR P n y Q) .normal E H:=vz h
theorem Ei (h:QH Q .normal E H) (hi:opAt ops i=none:=by kernel_rfl):WI P n ops i Q E H:=wy hi h
theorem En (h:WH P n y Q E H) (hi:opAt ops i=none:=by kernel_rfl):WI P n ops i (qR P n y Q) E H:=wy hi (vz h)
theorem Es {z:Code} (h:WH P n y (qR P n z Q) E H) (hi:opAt ops i=none:=by kernel_rfl):WI P n ops i (qR P n (.seq y z) Q) E H:=wy hi (vz (zT h))
theorem Eg {ar:Array Oper} {id:Nat} (h:WI P n ⟨ar,ar.toList⟩ 0 (qR P n y Q) E H) (hi:opAt ops i=none:=by kernel_rfl):WI P n ops i (qR P n (.seq (.region id ar false) y) Q) E H:=wy hi (vz (zT (wx h)))
theorem Er (h:QH Q .ret E H) (hi:opAt ops i=none:=by kernel_rfl):WI P n ops i (qR P n .ret Q) E H:=wy hi (vz (G5 h))
theorem Wr (h:QH Q .ret E H):WH P n .ret Q E H:=G5 h
theorem Ws (h:QH Q .normal E H):WH P n .skip Q E H:=Dh h
theorem We {k:Nat} (h:QH Q (.exit k) E H):WH P n (.exit k) Q E H:=J8 h
theorem Wb {id:Nat} (h:WH P n x (rY id Q) E H):WH P n (.block id x) Q E H:=G4 h
theorem Tr (h:QH Q .ret E H):QH (qR P n y Q) .ret E H:=h
theorem Te {k:Nat} (h:QH Q (.exit k) E H):QH (qR P n y Q) (.exit k) E H:=h
theorem Bn {id:Nat} (h:QH Q .normal E H):QH (rY id Q) .normal E H:=h
theorem Br {id:Nat} (h:QH Q .ret E H):QH (rY id Q) .ret E H:=h
theorem Be {id:Nat} (h:QH Q .normal E H):QH (rY id Q) (.exit id) E H:=yf h
theorem Kb (t:Nat) {b c:Bool} (hb:b=c) (g:WI P n ops i Q (E.put t (.bool c)) H) (h:E.get t=.bool b:=by kernel_rfl):WI P n ops i Q E H:=Pv hb h g
theorem Xt {c:Operand} {b:Bool} (hb:b=true) (ht:WH P n x Q E H) (hc:E.ev c=.bool b:=by kernel_rfl):WH P n (.cond c x y) Q E H:=eP hb hc ht
theorem Xf {c:Operand} {b:Bool} (hb:b=false) (ht:WH P n y Q E H) (hc:E.ev c=.bool b:=by kernel_rfl):WH P n (.cond c x y) Q E H:=c9 hb hc ht
theorem Xs {c:Operand} {b:Bool} (hb:b=false) (ht:QH Q .normal E H) (hc:E.ev c=.bool b:=by kernel_rfl):WH P n (.cond c x .skip) Q E H:=c9 hb hc (Dh ht)
theorem Fe {f:FuncId} {l:List Value} {Pre Y:List aO} {X:Value} (js:List (Nat × Bool)) (hspec:Ct P f l Pre (fun v L=>v=X∧L=Y)) (hp:preO js H=some Pre) (hf:bp P f=true)
    (g:WI P n ops (i+1) Q (E.putO (eZ ops i) X) (Y++jE js H)) (h:dec n ops E i rG=some (f,l):=by kernel_rfl):WI P n ops i Q E H :=
  Cg js hspec hp hf h (fun v L ⟨hv,hL⟩=>hv ▸ hL ▸ g)
theorem Fx {f:FuncId} {l:List Value} {Pre:List aO} {W:Type} {Y:W→List aO} {X:W→Value} (js:List (Nat × Bool)) (hspec:Ct P f l Pre (fun v L=>∃ w,v=X w∧L=Y w)) (hp:preO js H=some Pre) (hf:bp P f=true)
    (g:∀ w,WI P n ops (i+1) Q (E.putO (eZ ops i) (X w)) (Y w++jE js H)) (h:dec n ops E i rG=some (f,l):=by kernel_rfl):WI P n ops i Q E H :=
  Cg js hspec hp hf h (fun v L ⟨w,hv,hL⟩=>hv ▸ hL ▸ g w)
theorem Ql {fn:Func} {F:List aO} {dj:Value→List aO→Prop} {L:List aO} (l:List Value) (js:List (Nat × Bool)) (k:Nat) (hp:dj (one l) L:=by exact ⟨rfl,rfl⟩) (hr:yA E fn.results.toList=some l:=by kernel_rfl) (hj:preO js H=some L:=by kernel_rfl) (hF:(jE js H).drop k=F:=by kernel_rfl) :
    QH (DD P fn (Hp F dj)) .ret E H:=bq js k hp (.inl rfl) hr hj hF
theorem Rh (H':List aO) (g:WI P n ops i Q E H') (e:H=H':=by kernel_rfl):WI P n ops i Q E H:=e ▸ g
end
theorem Sj {α:Type} {a b:α} (h:some a=some b):a=b:=Option.some.inj h
end Gw
