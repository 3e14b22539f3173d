/- Own words: maps that the call has made, keyed by integers. -/
import Derived.Test.YtpjenmchinpgaaaGreatDoorGw8
import Derived.MapKept
set_option linter.unusedVariables false
namespace Gw
open Go Gv
def P6(v:Value):List Nat:=match v with | .map (some r)=>[r] | _=>[]
def wN{α:Type}(ik:IntKind)(vd:α→Value)(v:Value)(m:List (Int×α)):aG :=
 ⟨P6 v,λs=>∃r es clock,v=.map (some r)∧s.w.heap[r]?=some (.map es clock)∧es.toList.map (λe=>(e.key,e.val))=m.map (λp=>(Value.int ik p.1,vd p.2)),
  λa b h hb ⟨r,es,clock,e,h1,h2⟩=>⟨r,es,clock,e,by rw[hb r (by rw[e];exact List.mem_singleton.2 rfl)];exact h1,h2⟩⟩
theorem ui{α:Type}{ik:IntKind}{vd:α→Value}{tk:IntKind}(k:Int)(a:α):∀(es:List MapEntry) (m:List (Int×α)) (i:Nat),es.map (λe=>(e.key,e.val))=m.map (λp=>(Value.int ik p.1,vd p.2)) →
  (j7 m k=none∧Instr.findNow (.int tk) (.int ik k) es i=some none∧(pY m k a).map (λp=>(Value.int ik p.1,vd p.2))=es.map (λe=>(e.key,e.val))++[(.int ik k,vd a)]) ∨
  (∃x j e0,j7 m k=some x∧Instr.findNow (.int tk) (.int ik k) es i=some (some (i+j,vd x))∧es[j]?=some e0∧e0.key=.int ik k∧(pY m k a).map (λp=>(Value.int ik p.1,vd p.2))=(es.map (λe=>(e.key,e.val))).set j (.int ik k,vd a))
 | [],[],i,_=>.inl ⟨rfl,rfl,rfl⟩
 | [],_::_,_,h=>by simp at h
 | _::_,[],_,h=>by simp at h
 | e::es,p::m,i,h=>by
  rw[List.map_cons,List.map_cons] at h
  have h0:=List.cons.inj h
  have hk:e.key=.int ik p.1:=congrArg Prod.fst h0.1
  have hv:e.val=vd p.2:=congrArg Prod.snd h0.1
  have hs:Instr.sameNow (.int tk) (.int ik k) e.key=some (k==p.1):=by rw[hk];unfold Instr.sameNow;simp
  by_cases hq:p.1=k
  ·right
   refine⟨p.2,0,e,?_,?_,rfl,by rw[hk,hq],?_⟩
   ·show(bif p.1==k then some p.2 else j7 m k)=_;rw[hq];simp
   ·unfold Instr.findNow;rw[hs,hq];simp[hv]
   ·show((bif p.1==k then(k,a)::m else p::pY m k a)).map _=_
    rw[hq,beq_self_eq_true,cond_true,List.map_cons,List.map_cons,List.set_cons_zero,h0.2]
  ·have hb:(p.1==k)=false:=by simpa using hq
   have hb2:(k==p.1)=false:=by simpa using λh=>hq h.symm
   have e1:j7 (p::m) k=j7 m k:=by show(bif p.1==k then some p.2 else j7 m k)=_;rw[hb];rfl
   have e2:pY (p::m) k a=p::pY m k a:=by show(bif p.1==k then(k,a)::m else p::pY m k a)=_;rw[hb];rfl
   have e3:Instr.findNow (.int tk) (.int ik k) (e::es) i=Instr.findNow (.int tk) (.int ik k) es (i+1):=by
    show(match Instr.sameNow (.int tk) (.int ik k) e.key with | some true=>_ | some false=>_ | none=>_)=_
    rw[hs,hb2]
   rcases ui (ik:=ik) (vd:=vd) (tk:=tk) k a es m (i+1) h0.2 with ⟨g1,g2,g3⟩ | ⟨x,j,e0,g1,g2,g3,g4,g5⟩
   ·left
    refine⟨by rw[e1];exact g1,by rw[e3];exact g2,?_⟩
    rw[e2,List.map_cons,List.map_cons,g3,h0.1];rfl
   ·right
    refine⟨x,j+1,e0,by rw[e1];exact g1,by rw[e3,g2,Nat.add_right_comm,Nat.add_assoc],by simpa using g3,g4,?_⟩
    rw[e2,List.map_cons,List.map_cons,List.set_cons_succ,g5,h0.1]
theorem yw{es:List MapEntry}{q:Nat}{f:MapEntry→MapEntry}{c:Value×Value}(hf:∀e,((f e).key,(f e).val)=c):(es.modify q f).map (λe=>(e.key,e.val))=(es.map (λe=>(e.key,e.val))).set q c:=by
 apply List.ext_getElem?
 intro i
 rw[List.getElem?_map,List.getElem?_modify,List.getElem?_set,List.getElem?_map,List.length_map]
 by_cases h:q=i
 ·subst h
  by_cases hl:q<es.length
  ·rw[List.getElem?_eq_getElem hl];simp[hf,hl]
  ·rw[List.getElem?_eq_none (by omega)];simp[hl]
 ·simp[h]
/-- a map's type -/
def E8(P:Program)(t:TypeId):Option (TypeId×IntKind×TypeId):=match P.underlying t with
 | some (.map kt et)=>match P.underlying kt with | some (.int tk)=>some (kt,tk,et) | _=>none
 | _=>none
theorem wW{P:Program}{t kt et:TypeId}{tk:IntKind}(h:E8 P t=some (kt,tk,et)):P.underlying t=some (.map kt et)∧P.underlying kt=some (.int tk):=by
 unfold E8 at h
 split at h
 ·rename_i a b hu
  split at h
  ·rename_i c hk;cases h;exact⟨hu,hk⟩
  ·cases h
 ·cases h
section
variable {P:Program}{n:Nat}{Q:cQ}{E:Env}{H F:List aG}{ops:sH}{i:Nat}
theorem pD{w:World}{kt:TypeId}{tk ik:IntKind}{k:Int}(hk:P.underlying kt=some (.int tk))(b:Bool)(f:Nat):(Instr.checkKey b (f+1) kt (.int ik k)).run P w=.ok () w:=by
 simp[Instr.checkKey,run_underlying hk]
theorem rq{w:World}{kt:TypeId}{tk ik:IntKind}{k:Int}{es:List MapEntry}{r:Option (Nat×Value)}(hk:P.underlying kt=some (.int tk))(hf:Instr.findNow (.int tk) (.int ik k) es 0=some r):(Instr.findKey kt (.int ik k) es).run P w=.ok r w:=by
 simp[Instr.findKey,run_underlying hk,hf]
def QR(E:Env)(o:Oper):Option TypeId:=match o.op with | .makeMap t none=>some t | _=>none
theorem Lx{α:Type}(ik:IntKind)(vd:α→Value){t:TypeId}(h:dec n ops E i QR=some t)(g:∀v:Value,WI P n ops (i+1) Q (E.putO (eX ops i) v) (wN ik vd v []::H)):WI P n ops i Q E H :=
 rC (X:=Value) (C:=λ_=>True) (V:=id) h (λo ho s ok hs=>by
  unfold QR at ho
  split at ho
  ·rename_i t' hop
   cases ho
   obtain⟨ok',hs'⟩:=qS ok hs (.map #[] 0) (y:=wN ik vd (.map (some s.w.heap.size)) []) (.inl rfl)
    ⟨_,#[],0,rfl,by show(s.w.alloc _).heap[s.w.heap.size]?=_;rw[heap_alloc_new],rfl⟩
   refine⟨.map (some s.w.heap.size),⟨s.w.alloc (.map #[] 0),s.fz⟩,?_,trivial,ok',hs'⟩
   unfold execOp
   rw[hop]
   simp[Instr.makeMap,newObj]
   rfl
  ·cases ho) (λv _=>g v)
def QP(E:Env)(o:Oper):Option (TypeId×Value×Value×Bool):=match o.op with | .lookup t x k c=>some (t,E.ev x,E.ev k,c) | _=>none
theorem Lw{α:Type}{ik:IntKind}{vd:α→Value}{v:Value}{m:List (Int×α)}{k:Int}{t kt et:TypeId}{tk:IntKind}{agg:Bool}{sz by_:Nat}{z:Value}(c:Bool)(z0:α)(j:Nat)(hp:pick H j=some (wN ik vd v m))(h:dec n ops E i QP=some (t,v,.int ik k,c))
  (ht:E8 P t=some (kt,tk,et)) (hz:dR P et=some (agg,sz,by_,z)) (hz0:z=vd z0) (g:WI P n ops (i+1) Q (E.putO (eX ops i) (match c with | true=>.tuple #[vd ((j7 m k).getD z0),.bool (j7 m k).isSome] | false=>vd ((j7 m k).getD z0))) H):WI P n ops i Q E H :=
 qz h (λo ho s ok hs=>by
  obtain⟨r,es,clock,rfl,hb,hm⟩:=hs.q _ (cj hp)
  obtain⟨ht1,ht2⟩:=wW ht
  obtain⟨ii,d,hi,hd,_,_,_,hzz⟩:=ja hz
  unfold QP at ho
  split at ho
  ·rename_i t' x kk c' hop
   simp only[Option.some.injEq,Prod.mk.injEq] at ho
   obtain⟨rfl,hx,hk,rfl⟩:=ho
   unfold execOp
   rw[hop]
   simp only[hx,hk]
   rcases ui (ik:=ik) (vd:=vd) (tk:=tk) k z0 es.toList m 0 hm with ⟨g1,g2,_⟩ | ⟨x,j,e0,g1,g2,_,_,_⟩
   ·rw[g1]
    cases c' <;> simp[Instr.lookup,run_underlying ht1,MapKept.run_getObj_map hb,pD ht2,rq ht2 g2,zeroValue,typeInfo,hi,hzz,hz0]
   ·rw[g1]
    cases c' <;> simp[Instr.lookup,run_underlying ht1,MapKept.run_getObj_map hb,pD ht2,rq ht2 g2]
  ·cases ho) g
def QT(E:Env)(o:Oper):Option (TypeId×Value×Value×Value):=match o.op with | .mapUpdate t m k x=>some (t,E.ev m,E.ev k,E.ev x) | _=>none
theorem Lz{α:Type}{ik:IntKind}{vd:α→Value}{v:Value}{m:List (Int×α)}{k:Int}{a:α}{t kt et:TypeId}{tk:IntKind}(j:Nat)(hp:pick H j=some (wN ik vd v m))(h:dec n ops E i QT=some (t,v,.int ik k,vd a))
  (ht:E8 P t=some (kt,tk,et)) (g:WI P n ops (i+1) Q (E.putO (eX ops i) undef) (wN ik vd v (pY m k a)::ct H j)):WI P n ops i Q E H :=
 HY h (λo ho s ok hs=>by
  obtain⟨r,es,clock,rfl,hb,hm⟩:=hs.q _ (cj hp)
  obtain⟨ht1,ht2⟩:=wW ht
  have hrl:r<s.w.heap.size:=(Array.getElem?_eq_some_iff.1 hb).1
  have hset:∀ob:Obj,(s.w.heap.setIfInBounds r ob)[r]?=some ob:=λob=>by simp[hrl]
  have hupd:∀ob:Obj,(wN ik vd (.map (some r)) (pY m k a)).q ⟨{ s.w with heap:=s.w.heap.setIfInBounds r ob },s.fz⟩→St.Ok ⟨{ s.w with heap:=s.w.heap.setIfInBounds r ob },s.fz⟩∧Holds ⟨{ s.w with heap:=s.w.heap.setIfInBounds r ob },s.fz⟩ (wN ik vd (.map (some r)) (pY m k a)::ct H j):=λob hq=>by
   exact Holds.upd ok (Holds.out hs hp) (w':={ s.w with heap:=s.w.heap.setIfInBounds r ob }) (by simp) rfl rfl rfl (λq _ hq'=>by
    have:q≠r:=λe=>hq' (by rw[e];exact List.mem_singleton.2 rfl)
    simp[Ne.symm this]) rfl hq
  unfold QT at ho
  split at ho
  ·rename_i t' x kk y hop
   simp only[Option.some.injEq,Prod.mk.injEq] at ho
   obtain⟨rfl,hx,hk,hy⟩:=ho
   rcases ui (ik:=ik) (vd:=vd) (tk:=tk) k a es.toList m 0 hm with ⟨g1,g2,g3⟩ | ⟨x0,q,e0,g1,g2,g3,g4,g5⟩
   ·obtain⟨ok',hs'⟩:=hupd (.map (es.push ⟨.int ik k,vd a,clock⟩) (clock+1)) ⟨r,_,_,rfl,hset _,by rw[g3];simp⟩
    refine⟨⟨_,s.fz⟩,?_,ok',hs'⟩
    unfold execOp
    rw[hop]
    simp only[hx,hk,hy]
    simp[Instr.mapUpdate,run_underlying ht1,MapKept.run_getObj_map hb,pD ht2,rq ht2 g2,MapKept.run_setObj_map _ hb]
   ·have hq:es[q]?=some e0:=by simpa using g3
    obtain⟨ok',hs'⟩:=hupd (.map (es.modify q λe=>{ e with key:=.int ik k,val:=vd a }) clock) ⟨r,_,_,rfl,hset _,by
     rw[g5,Array.toList_modify,yw (c:=(.int ik k,vd a)) (λ_=>rfl)]⟩
    refine⟨⟨_,s.fz⟩,?_,ok',hs'⟩
    unfold execOp
    rw[hop]
    simp only[hx,hk,hy]
    have hst:∀w,(Instr.keyThatStays (.int ik k) (.int ik k)).run P w=.ok (.int ik k) w:=λw=>by simp[Instr.keyThatStays,Instr.sameBits]
    simp[Instr.mapUpdate,run_underlying ht1,MapKept.run_getObj_map hb,pD ht2,rq ht2 g2,hq,g4,hst,MapKept.run_setObj_map _ hb]
  ·cases ho) g
def QN(E:Env)(o:Oper):Option (TypeId×Value×Value×Value):=match o.op with | .insert t m k x=>some (t,E.ev m,E.ev k,E.ev x) | _=>none
theorem OL{α:Type}{ik:IntKind}{vd:α→Value}{v:Value}{m:List (Int×α)}{k:Int}{a:α}{t kt et:TypeId}{tk:IntKind}(j:Nat)(hp:pick H j=some (wN ik vd v m))(h:dec n ops E i QN=some (t,v,.int ik k,vd a))
  (ht:E8 P t=some (kt,tk,et)) (g:WI P n ops (i+1) Q (E.putO (eX ops i) undef) (wN ik vd v (pY m k a)::ct H j)):WI P n ops i Q E H :=
 HY h (λo ho s ok hs=>by
  obtain⟨r,es,clock,rfl,hb,hm⟩:=hs.q _ (cj hp)
  obtain⟨ht1,ht2⟩:=wW ht
  have hrl:r<s.w.heap.size:=(Array.getElem?_eq_some_iff.1 hb).1
  have hset:∀ob:Obj,(s.w.heap.setIfInBounds r ob)[r]?=some ob:=λob=>by simp[hrl]
  have hupd:∀ob:Obj,(wN ik vd (.map (some r)) (pY m k a)).q ⟨{ s.w with heap:=s.w.heap.setIfInBounds r ob },s.fz⟩→St.Ok ⟨{ s.w with heap:=s.w.heap.setIfInBounds r ob },s.fz⟩∧Holds ⟨{ s.w with heap:=s.w.heap.setIfInBounds r ob },s.fz⟩ (wN ik vd (.map (some r)) (pY m k a)::ct H j):=λob hq=>by
   exact Holds.upd ok (Holds.out hs hp) (w':={ s.w with heap:=s.w.heap.setIfInBounds r ob }) (by simp) rfl rfl rfl (λq _ hq'=>by
    have:q≠r:=λe=>hq' (by rw[e];exact List.mem_singleton.2 rfl)
    simp[Ne.symm this]) rfl hq
  unfold QN at ho
  split at ho
  ·rename_i t' x kk y hop
   simp only[Option.some.injEq,Prod.mk.injEq] at ho
   obtain⟨rfl,hx,hk,hy⟩:=ho
   rcases ui (ik:=ik) (vd:=vd) (tk:=tk) k a es.toList m 0 hm with ⟨g1,g2,g3⟩ | ⟨x0,q,e0,g1,g2,g3,g4,g5⟩
   ·obtain⟨ok',hs'⟩:=hupd (.map (es.push ⟨.int ik k,vd a,clock⟩) (clock+1)) ⟨r,_,_,rfl,hset _,by rw[g3];simp⟩
    refine⟨⟨_,s.fz⟩,?_,ok',hs'⟩
    unfold execOp
    rw[hop]
    simp only[hx,hk,hy]
    simp[Instr.mapUpdate,run_underlying ht1,MapKept.run_getObj_map hb,pD ht2,rq ht2 g2,MapKept.run_setObj_map _ hb]
   ·have hq:es[q]?=some e0:=by simpa using g3
    obtain⟨ok',hs'⟩:=hupd (.map (es.modify q λe=>{ e with key:=.int ik k,val:=vd a }) clock) ⟨r,_,_,rfl,hset _,by
     rw[g5,Array.toList_modify,yw (c:=(.int ik k,vd a)) (λ_=>rfl)]⟩
    refine⟨⟨_,s.fz⟩,?_,ok',hs'⟩
    unfold execOp
    rw[hop]
    simp only[hx,hk,hy]
    have hst:∀w,(Instr.keyThatStays (.int ik k) (.int ik k)).run P w=.ok (.int ik k) w:=λw=>by simp[Instr.keyThatStays,Instr.sameBits]
    simp[Instr.mapUpdate,run_underlying ht1,MapKept.run_getObj_map hb,pD ht2,rq ht2 g2,hq,g4,hst,MapKept.run_setObj_map _ hb]
  ·cases ho) g
end
end Gw
