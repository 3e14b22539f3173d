/- Own words: short forms of the rules, for shorter texts. -/
import Derived.Test.YtpjenmchinpgaaaGreatDoorGw12
set_option linter.unusedVariables false
namespace Gw
open Go Gv
abbrev bx(b:Nat):Value:=.pointer (some ⟨b,0,none⟩)
abbrev iN(n:Nat):Value:=.int .i64 (n:Int)
abbrev uN(n:Nat):Value:=.int .u64 (n:Int)
section
variable {P:Program}{n:Nat}{Q:cQ}{E:Env}{H:List aG}{ops:sH}{i:Nat}{x y:Code}
theorem Sq(h:WH P n x (rv P n y Q) E H):WH P n (.seq x y) Q E H:=AV h
theorem Rg{ar:Array Oper}{id:Nat}(h:WI P n ⟨ar,ar.toList⟩ 0 Q E H):WH P n (.region id ar false) Q E H:=wZ h
theorem Sg{ar:Array Oper}{id:Nat}(h:WI P n ⟨ar,ar.toList⟩ 0 (rv P n y Q) E H):WH P n (.seq (.region id ar false) y) Q E H:=AV (wZ h)
theorem Tn(h:WH P n y Q E H):QH (rv P n y Q) .normal E H:=vS h
theorem Ei(h:QH Q .normal E H)(hi:opAt ops i=none:=by kernel_rfl):WI P n ops i Q E H:=xc hi h
theorem En(h:WH P n y Q E H)(hi:opAt ops i=none:=by kernel_rfl):WI P n ops i (rv P n y Q) E H:=xc hi (vS h)
theorem Es{z:Code}(h:WH P n y (rv P n z Q) E H)(hi:opAt ops i=none:=by kernel_rfl):WI P n ops i (rv P n (.seq y z) Q) E H:=xc hi (vS (AV h))
theorem Eg{ar:Array Oper}{id:Nat}(h:WI P n ⟨ar,ar.toList⟩ 0 (rv P n y Q) E H)(hi:opAt ops i=none:=by kernel_rfl):WI P n ops i (rv P n (.seq (.region id ar false) y) Q) E H:=xc hi (vS (AV (wZ h)))
theorem Er(h:QH Q .ret E H)(hi:opAt ops i=none:=by kernel_rfl):WI P n ops i (rv P n .ret Q) E H:=xc hi (vS (H4 h))
theorem Wr(h:QH Q .ret E H):WH P n .ret Q E H:=H4 h
theorem Ws(h:QH Q .normal E H):WH P n .skip Q E H:=Ec h
theorem We{k:Nat}(h:QH Q (.exit k) E H):WH P n (.exit k) Q E H:=KY h
theorem Wb{id:Nat}(h:WH P n x (sL id Q) E H):WH P n (.block id x) Q E H:=H3 h
theorem Tr(h:QH Q .ret E H):QH (rv P n y Q) .ret E H:=h
theorem Te{k:Nat}(h:QH Q (.exit k) E H):QH (rv P n y Q) (.exit k) E H:=h
theorem Bn{id:Nat}(h:QH Q .normal E H):QH (sL id Q) .normal E H:=h
theorem Br{id:Nat}(h:QH Q .ret E H):QH (sL id Q) .ret E H:=h
theorem Be{id:Nat}(h:QH Q .normal E H):QH (sL id Q) (.exit id) E H:=yX h
theorem Kb(t:Nat){b c:Bool}(hb:b=c)(g:WI P n ops i Q (E.put t (.bool c)) H)(h:E.get t=.bool b:=by kernel_rfl):WI P n ops i Q E H:=Qp hb h g
theorem Xt{c:Operand}{b:Bool}(hb:b=true)(ht:WH P n x Q E H)(hc:E.ev c=.bool b:=by kernel_rfl):WH P n (.cond c x y) Q E H:=dJ hb hc ht
theorem Xf{c:Operand}{b:Bool}(hb:b=false)(ht:WH P n y Q E H)(hc:E.ev c=.bool b:=by kernel_rfl):WH P n (.cond c x y) Q E H:=cY hb hc ht
theorem Xs{c:Operand}{b:Bool}(hb:b=false)(ht:QH Q .normal E H)(hc:E.ev c=.bool b:=by kernel_rfl):WH P n (.cond c x .skip) Q E H:=cY hb hc (Ec ht)
theorem Fe{f:FuncId}{l:List Value}{Pre Y:List aG}{X:Value}(js:List (Nat×Bool))(hspec:Ct P f l Pre (λv L=>v=X∧L=Y))(hp:preO js H=some Pre)(hf:bz P f=true)
  (g:WI P n ops (i+1) Q (E.putO (eX ops i) X) (Y++j8 js H)) (h:dec n ops E i sr=some (f,l):=by kernel_rfl):WI P n ops i Q E H :=
 C6 js hspec hp hf h (λv L ⟨hv,hL⟩=>hv▸hL▸g)
theorem Fx{f:FuncId}{l:List Value}{Pre:List aG}{W:Type}{Y:W→List aG}{X:W→Value}(js:List (Nat×Bool))(hspec:Ct P f l Pre (λv L=>∃w,v=X w∧L=Y w))(hp:preO js H=some Pre)(hf:bz P f=true)
  (g:∀w,WI P n ops (i+1) Q (E.putO (eX ops i) (X w)) (Y w++j8 js H)) (h:dec n ops E i sr=some (f,l):=by kernel_rfl):WI P n ops i Q E H :=
 C6 js hspec hp hf h (λv L ⟨w,hv,hL⟩=>hv▸hL▸g w)
theorem Ql{fn:Func}{F:List aG}{cQ:Value→List aG→Prop}{L:List aG}(l:List Value)(js:List (Nat×Bool))(k:Nat)(hp:cQ (one l) L:=by exact⟨rfl,rfl⟩)(hr:zy E fn.results.toList=some l:=by kernel_rfl)(hj:preO js H=some L:=by kernel_rfl)(hF:(j8 js H).drop k=F:=by kernel_rfl) :
  QH (Bq P fn (Cc F cQ)) .ret E H:=bD js k hp (.inl rfl) hr hj hF
theorem Rh(H':List aG)(g:WI P n ops i Q E H')(e:H=H':=by kernel_rfl):WI P n ops i Q E H:=e▸g
end
theorem Sj{α:Type}{a b:α}(h:some a=some b):a=b:=Option.some.inj h
end Gw
