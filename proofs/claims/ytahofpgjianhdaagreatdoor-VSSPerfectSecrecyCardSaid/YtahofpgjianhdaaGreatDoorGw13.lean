/- Own words: short forms of the rules, for shorter texts. -/
import Derived.Test.YtahofpgjianhdaaGreatDoorGw12
set_option linter.unusedVariables false
namespace Gw
open Go Gv
abbrev bx (b:Nat):Value:=.pointer (some ⟨b,0,none⟩)
abbrev iN (n:Nat):Value:=.int .i64 (n:Int)
abbrev uN (n:Nat):Value:=.int .u64 (n:Int)
section
variable {P:Program} {n:Nat} {Q:Post} {E:Env} {H:List Asrt} {ops:Reg} {i:Nat} {x y:Code}
theorem Sq (h:WH P n x (thenQ P n y Q) E H):WH P n (.seq x y) Q E H:=wh_seq h
theorem Rg {ar:Array Oper} {id:Nat} (h:WI P n ⟨ar,ar.toList⟩ 0 Q E H):WH P n (.region id ar false) Q E H:=wh_region h
theorem Sg {ar:Array Oper} {id:Nat} (h:WI P n ⟨ar,ar.toList⟩ 0 (thenQ P n y Q) E H):WH P n (.seq (.region id ar false) y) Q E H:=wh_seq (wh_region h)
theorem Tn (h:WH P n y Q E H):QH (thenQ P n y Q) .normal E H:=qh_then h
theorem Ei (h:QH Q .normal E H) (hi:opAt ops i=none:=by kernel_rfl):WI P n ops i Q E H:=wi_end hi h
theorem En (h:WH P n y Q E H) (hi:opAt ops i=none:=by kernel_rfl):WI P n ops i (thenQ P n y Q) E H:=wi_end hi (qh_then h)
theorem Es {z:Code} (h:WH P n y (thenQ P n z Q) E H) (hi:opAt ops i=none:=by kernel_rfl):WI P n ops i (thenQ P n (.seq y z) Q) E H:=wi_end hi (qh_then (wh_seq h))
theorem Eg {ar:Array Oper} {id:Nat} (h:WI P n ⟨ar,ar.toList⟩ 0 (thenQ P n y Q) E H) (hi:opAt ops i=none:=by kernel_rfl):WI P n ops i (thenQ P n (.seq (.region id ar false) y) Q) E H:=wi_end hi (qh_then (wh_seq (wh_region h)))
theorem Er (h:QH Q .ret E H) (hi:opAt ops i=none:=by kernel_rfl):WI P n ops i (thenQ P n .ret Q) E H:=wi_end hi (qh_then (wh_ret h))
theorem Wr (h:QH Q .ret E H):WH P n .ret Q E H:=wh_ret h
theorem Ws (h:QH Q .normal E H):WH P n .skip Q E H:=wh_skip h
theorem We {k:Nat} (h:QH Q (.exit k) E H):WH P n (.exit k) Q E H:=wh_exit h
theorem Wb {id:Nat} (h:WH P n x (blockQ id Q) E H):WH P n (.block id x) Q E H:=wh_block h
theorem Tr (h:QH Q .ret E H):QH (thenQ P n y Q) .ret E H:=h
theorem Te {k:Nat} (h:QH Q (.exit k) E H):QH (thenQ P n y Q) (.exit k) E H:=h
theorem Bn {id:Nat} (h:QH Q .normal E H):QH (blockQ id Q) .normal E H:=h
theorem Br {id:Nat} (h:QH Q .ret E H):QH (blockQ id Q) .ret E H:=h
theorem Be {id:Nat} (h:QH Q .normal E H):QH (blockQ id Q) (.exit id) E H:=qh_block_exit h
theorem Kb (t:Nat) {b c:Bool} (hb:b=c) (g:WI P n ops i Q (E.put t (.bool c)) H) (h:E.get t=.bool b:=by kernel_rfl):WI P n ops i Q E H:=w_kb hb h g
theorem Xt {c:Operand} {b:Bool} (hb:b=true) (ht:WH P n x Q E H) (hc:E.ev c=.bool b:=by kernel_rfl):WH P n (.cond c x y) Q E H:=h_ct hb hc ht
theorem Xf {c:Operand} {b:Bool} (hb:b=false) (ht:WH P n y Q E H) (hc:E.ev c=.bool b:=by kernel_rfl):WH P n (.cond c x y) Q E H:=h_cf hb hc ht
theorem Xs {c:Operand} {b:Bool} (hb:b=false) (ht:QH Q .normal E H) (hc:E.ev c=.bool b:=by kernel_rfl):WH P n (.cond c x .skip) Q E H:=h_cf hb hc (wh_skip ht)
theorem Fe {f:FuncId} {l:List Value} {Pre Y:List Asrt} {X:Value} (js:List (Nat × Bool)) (hspec:Ct P f l Pre (fun v L=>v=X∧L=Y)) (hp:preO js H=some Pre) (hf:fnOK P f=true)
    (g:WI P n ops (i+1) Q (E.putO (dstO ops i) X) (Y++restO js H)) (h:dec n ops E i fCall=some (f,l):=by kernel_rfl):WI P n ops i Q E H :=
  w_fn js hspec hp hf h (fun v L ⟨hv,hL⟩=>hv ▸ hL ▸ g)
theorem Fx {f:FuncId} {l:List Value} {Pre:List Asrt} {W:Type} {Y:W→List Asrt} {X:W→Value} (js:List (Nat × Bool)) (hspec:Ct P f l Pre (fun v L=>∃ w,v=X w∧L=Y w)) (hp:preO js H=some Pre) (hf:fnOK P f=true)
    (g:∀ w,WI P n ops (i+1) Q (E.putO (dstO ops i) (X w)) (Y w++restO js H)) (h:dec n ops E i fCall=some (f,l):=by kernel_rfl):WI P n ops i Q E H :=
  w_fn js hspec hp hf h (fun v L ⟨w,hv,hL⟩=>hv ▸ hL ▸ g w)
theorem Ql {fn:Func} {F:List Asrt} {Post:Value→List Asrt→Prop} {L:List Asrt} (l:List Value) (js:List (Nat × Bool)) (k:Nat) (hp:Post (one l) L:=by exact ⟨rfl,rfl⟩) (hr:resOf E fn.results.toList=some l:=by kernel_rfl) (hj:preO js H=some L:=by kernel_rfl) (hF:(restO js H).drop k=F:=by kernel_rfl) :
    QH (endQ P fn (Ret F Post)) .ret E H:=q_end js k hp (.inl rfl) hr hj hF
theorem Rh (H':List Asrt) (g:WI P n ops i Q E H') (e:H=H':=by kernel_rfl):WI P n ops i Q E H:=e ▸ g
end
theorem Sj {α:Type} {a b:α} (h:some a=some b):a=b:=Option.some.inj h
end Gw
