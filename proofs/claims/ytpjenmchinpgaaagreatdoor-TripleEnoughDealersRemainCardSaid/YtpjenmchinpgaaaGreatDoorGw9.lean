/- Own words: maps that the call has made, keyed by integers. -/
import Derived.Test.YtpjenmchinpgaaaGreatDoorGw8
import Derived.MapKept
set_option linter.unusedVariables false
namespace Gw
open Go Gv
def Pd (v:Value):List Nat:=match v with | .map (some r)=>[r] | _=>[]
def we {α:Type} (ik:IntKind) (vd:α→Value) (v:Value) (m:List (Int × α)):aE :=
  ⟨Pd v,fun s=>∃ r es clock,v=.map (some r)∧s.w.heap[r]?=some (.map es clock)∧es.toList.map (fun e=>(e.key,e.val))=m.map (fun p=>(Value.int ik p.1,vd p.2)),
    fun a b h hb ⟨r,es,clock,e,h1,h2⟩=>⟨r,es,clock,e,by rw [hb r (by rw [e];exact List.mem_singleton.2 rfl)];exact h1,h2⟩⟩
theorem tY {α:Type} {ik:IntKind} {vd:α→Value} {tk:IntKind} (k:Int) (a:α):∀ (es:List MapEntry) (m:List (Int × α)) (i:Nat),es.map (fun e=>(e.key,e.val))=m.map (fun p=>(Value.int ik p.1,vd p.2)) →
    (mU m k=none∧Instr.findNow (.int tk) (.int ik k) es i=some none∧(se m k a).map (fun p=>(Value.int ik p.1,vd p.2))=es.map (fun e=>(e.key,e.val))++[(.int ik k,vd a)]) ∨
    (∃ x j e0,mU m k=some x∧Instr.findNow (.int tk) (.int ik k) es i=some (some (i+j,vd x))∧es[j]?=some e0∧e0.key=.int ik k∧(se m k a).map (fun p=>(Value.int ik p.1,vd p.2))=(es.map (fun e=>(e.key,e.val))).set j (.int ik k,vd a))
  | [],[],i,_=>.inl ⟨rfl,rfl,rfl⟩
  | [],_ :: _,_,h=>by simp at h
  | _ :: _,[],_,h=>by simp at h
  | e :: es,p :: m,i,h=>by
    rw [List.map_cons,List.map_cons] at h
    have h0:=List.cons.inj h
    have hk:e.key=.int ik p.1:=congrArg Prod.fst h0.1
    have hv:e.val=vd p.2:=congrArg Prod.snd h0.1
    have hs:Instr.sameNow (.int tk) (.int ik k) e.key=some (k == p.1):=by rw [hk];unfold Instr.sameNow;simp
    by_cases hq:p.1=k
    · right
      refine ⟨p.2,0,e,?_,?_,rfl,by rw [hk,hq],?_⟩
      · show (bif p.1 == k then some p.2 else mU m k)=_;rw [hq];simp
      · unfold Instr.findNow;rw [hs,hq];simp [hv]
      · show ((bif p.1 == k then (k,a) :: m else p :: se m k a)).map _=_
        rw [hq,beq_self_eq_true,cond_true,List.map_cons,List.map_cons,List.set_cons_zero,h0.2]
    · have hb:(p.1 == k)=false:=by simpa using hq
      have hb2:(k == p.1)=false:=by simpa using fun h=>hq h.symm
      have e1:mU (p :: m) k=mU m k:=by show (bif p.1 == k then some p.2 else mU m k)=_;rw [hb];rfl
      have e2:se (p :: m) k a=p :: se m k a:=by show (bif p.1 == k then (k,a) :: m else p :: se m k a)=_;rw [hb];rfl
      have e3:Instr.findNow (.int tk) (.int ik k) (e :: es) i=Instr.findNow (.int tk) (.int ik k) es (i+1):=by
        show (match Instr.sameNow (.int tk) (.int ik k) e.key with | some true=>_ | some false=>_ | none=>_)=_
        rw [hs,hb2]
      rcases tY (ik:=ik) (vd:=vd) (tk:=tk) k a es m (i+1) h0.2 with ⟨g1,g2,g3⟩ | ⟨x,j,e0,g1,g2,g3,g4,g5⟩
      · left
        refine ⟨by rw [e1];exact g1,by rw [e3];exact g2,?_⟩
        rw [e2,List.map_cons,List.map_cons,g3,h0.1];rfl
      · right
        refine ⟨x,j+1,e0,by rw [e1];exact g1,by rw [e3,g2,Nat.add_right_comm,Nat.add_assoc],by simpa using g3,g4,?_⟩
        rw [e2,List.map_cons,List.map_cons,List.set_cons_succ,g5,h0.1]
theorem xN {es:List MapEntry} {q:Nat} {f:MapEntry→MapEntry} {c:Value × Value} (hf:∀ e,((f e).key,(f e).val)=c):(es.modify q f).map (fun e=>(e.key,e.val))=(es.map (fun e=>(e.key,e.val))).set q c:=by
  apply List.ext_getElem?
  intro i
  rw [List.getElem?_map,List.getElem?_modify,List.getElem?_set,List.getElem?_map,List.length_map]
  by_cases h:q=i
  · subst h
    by_cases hl:q < es.length
    · rw [List.getElem?_eq_getElem hl];simp [hf,hl]
    · rw [List.getElem?_eq_none (by omega)];simp [hl]
  · simp [h]
/-- a map's type -/
def Eo (P:Program) (t:TypeId):Option (TypeId × IntKind × TypeId):=match P.underlying t with
  | some (.map kt et)=>match P.underlying kt with | some (.int tk)=>some (kt,tk,et) | _=>none
  | _=>none
theorem wo {P:Program} {t kt et:TypeId} {tk:IntKind} (h:Eo P t=some (kt,tk,et)):P.underlying t=some (.map kt et)∧P.underlying kt=some (.int tk):=by
  unfold Eo at h
  split at h
  · rename_i a b hu
    split at h
    · rename_i c hk;cases h;exact ⟨hu,hk⟩
    · cases h
  · cases h
section
variable {P:Program} {n:Nat} {Q:cM} {E:Env} {H F:List aE} {ops:sO} {i:Nat}
theorem pz {w:World} {kt:TypeId} {tk ik:IntKind} {k:Int} (hk:P.underlying kt=some (.int tk)) (b:Bool) (f:Nat):(Instr.checkKey b (f+1) kt (.int ik k)).run P w=.ok () w:=by
  simp [Instr.checkKey,run_underlying hk]
theorem rz {w:World} {kt:TypeId} {tk ik:IntKind} {k:Int} {es:List MapEntry} {r:Option (Nat × Value)} (hk:P.underlying kt=some (.int tk)) (hf:Instr.findNow (.int tk) (.int ik k) es 0=some r):(Instr.findKey kt (.int ik k) es).run P w=.ok r w:=by
  simp [Instr.findKey,run_underlying hk,hf]
def P2 (E:Env) (o:Oper):Option TypeId:=match o.op with | .makeMap t none=>some t | _=>none
theorem KN {α:Type} (ik:IntKind) (vd:α→Value) {t:TypeId} (h:dec n ops E i P2=some t) (g:∀ v:Value,WI P n ops (i+1) Q (E.putO (eW ops i) v) (we ik vd v [] :: H)):WI P n ops i Q E H :=
  rL (X:=Value) (C:=fun _=>True) (V:=id) h (fun o ho s ok hs=>by
    unfold P2 at ho
    split at ho
    · rename_i t' hop
      cases ho
      obtain ⟨ok',hs'⟩:=qX ok hs (.map #[] 0) (y:=we ik vd (.map (some s.w.heap.size)) []) (.inl rfl)
        ⟨_,#[],0,rfl,by show (s.w.alloc _).heap[s.w.heap.size]?=_;rw [heap_alloc_new],rfl⟩
      refine ⟨.map (some s.w.heap.size),⟨s.w.alloc (.map #[] 0),s.fz⟩,?_,trivial,ok',hs'⟩
      unfold execOp
      rw [hop]
      simp [Instr.makeMap,newObj]
      rfl
    · cases ho) (fun v _=>g v)
def P0 (E:Env) (o:Oper):Option (TypeId × Value × Value × Bool):=match o.op with | .lookup t x k c=>some (t,E.ev x,E.ev k,c) | _=>none
theorem KM {α:Type} {ik:IntKind} {vd:α→Value} {v:Value} {m:List (Int × α)} {k:Int} {t kt et:TypeId} {tk:IntKind} {agg:Bool} {sz by_:Nat} {z:Value} (c:Bool) (z0:α) (j:Nat) (hp:pick H j=some (we ik vd v m)) (h:dec n ops E i P0=some (t,v,.int ik k,c))
    (ht:Eo P t=some (kt,tk,et)) (hz:dM P et=some (agg,sz,by_,z)) (hz0:z=vd z0) (g:WI P n ops (i+1) Q (E.putO (eW ops i) (match c with | true=>.tuple #[vd ((mU m k).getD z0),.bool (mU m k).isSome] | false=>vd ((mU m k).getD z0))) H):WI P n ops i Q E H :=
  rK h (fun o ho s ok hs=>by
    obtain ⟨r,es,clock,rfl,hb,hm⟩:=hs.q _ (ce hp)
    obtain ⟨ht1,ht2⟩:=wo ht
    obtain ⟨ii,d,hi,hd,_,_,_,hzz⟩:=iI hz
    unfold P0 at ho
    split at ho
    · rename_i t' x kk c' hop
      simp only [Option.some.injEq,Prod.mk.injEq] at ho
      obtain ⟨rfl,hx,hk,rfl⟩:=ho
      unfold execOp
      rw [hop]
      simp only [hx,hk]
      rcases tY (ik:=ik) (vd:=vd) (tk:=tk) k z0 es.toList m 0 hm with ⟨g1,g2,_⟩ | ⟨x,j,e0,g1,g2,_,_,_⟩
      · rw [g1]
        cases c' <;> simp [Instr.lookup,run_underlying ht1,MapKept.run_getObj_map hb,pz ht2,rz ht2 g2,zeroValue,typeInfo,hi,hzz,hz0]
      · rw [g1]
        cases c' <;> simp [Instr.lookup,run_underlying ht1,MapKept.run_getObj_map hb,pz ht2,rz ht2 g2]
    · cases ho) g
def P4 (E:Env) (o:Oper):Option (TypeId × Value × Value × Value):=match o.op with | .mapUpdate t m k x=>some (t,E.ev m,E.ev k,E.ev x) | _=>none
theorem KP {α:Type} {ik:IntKind} {vd:α→Value} {v:Value} {m:List (Int × α)} {k:Int} {a:α} {t kt et:TypeId} {tk:IntKind} (j:Nat) (hp:pick H j=some (we ik vd v m)) (h:dec n ops E i P4=some (t,v,.int ik k,vd a))
    (ht:Eo P t=some (kt,tk,et)) (g:WI P n ops (i+1) Q (E.putO (eW ops i) undef) (we ik vd v (se m k a) :: cj H j)):WI P n ops i Q E H :=
  Hc h (fun o ho s ok hs=>by
    obtain ⟨r,es,clock,rfl,hb,hm⟩:=hs.q _ (ce hp)
    obtain ⟨ht1,ht2⟩:=wo ht
    have hrl:r < s.w.heap.size:=(Array.getElem?_eq_some_iff.1 hb).1
    have hset:∀ ob:Obj,(s.w.heap.setIfInBounds r ob)[r]?=some ob:=fun ob=>by simp [hrl]
    have hupd:∀ ob:Obj,(we ik vd (.map (some r)) (se m k a)).q ⟨{ s.w with heap:=s.w.heap.setIfInBounds r ob },s.fz⟩→St.Ok ⟨{ s.w with heap:=s.w.heap.setIfInBounds r ob },s.fz⟩∧Holds ⟨{ s.w with heap:=s.w.heap.setIfInBounds r ob },s.fz⟩ (we ik vd (.map (some r)) (se m k a) :: cj H j):=fun ob hq=>by
      exact Holds.upd ok (Holds.out hs hp) (w':={ s.w with heap:=s.w.heap.setIfInBounds r ob }) (by simp) rfl rfl rfl (fun q _ hq'=>by
        have:q≠r:=fun e=>hq' (by rw [e];exact List.mem_singleton.2 rfl)
        simp [Ne.symm this]) rfl hq
    unfold P4 at ho
    split at ho
    · rename_i t' x kk y hop
      simp only [Option.some.injEq,Prod.mk.injEq] at ho
      obtain ⟨rfl,hx,hk,hy⟩:=ho
      rcases tY (ik:=ik) (vd:=vd) (tk:=tk) k a es.toList m 0 hm with ⟨g1,g2,g3⟩ | ⟨x0,q,e0,g1,g2,g3,g4,g5⟩
      · obtain ⟨ok',hs'⟩:=hupd (.map (es.push ⟨.int ik k,vd a,clock⟩) (clock+1)) ⟨r,_,_,rfl,hset _,by rw [g3];simp⟩
        refine ⟨⟨_,s.fz⟩,?_,ok',hs'⟩
        unfold execOp
        rw [hop]
        simp only [hx,hk,hy]
        simp [Instr.mapUpdate,run_underlying ht1,MapKept.run_getObj_map hb,pz ht2,rz ht2 g2,MapKept.run_setObj_map _ hb]
      · have hq:es[q]?=some e0:=by simpa using g3
        obtain ⟨ok',hs'⟩:=hupd (.map (es.modify q fun e=>{ e with key:=.int ik k,val:=vd a }) clock) ⟨r,_,_,rfl,hset _,by
          rw [g5,Array.toList_modify,xN (c:=(.int ik k,vd a)) (fun _=>rfl)]⟩
        refine ⟨⟨_,s.fz⟩,?_,ok',hs'⟩
        unfold execOp
        rw [hop]
        simp only [hx,hk,hy]
        have hst:∀ w,(Instr.keyThatStays (.int ik k) (.int ik k)).run P w=.ok (.int ik k) w:=fun w=>by simp [Instr.keyThatStays,Instr.sameBits]
        simp [Instr.mapUpdate,run_underlying ht1,MapKept.run_getObj_map hb,pz ht2,rz ht2 g2,hq,g4,hst,MapKept.run_setObj_map _ hb]
    · cases ho) g
def PY (E:Env) (o:Oper):Option (TypeId × Value × Value × Value):=match o.op with | .insert t m k x=>some (t,E.ev m,E.ev k,E.ev x) | _=>none
theorem NX {α:Type} {ik:IntKind} {vd:α→Value} {v:Value} {m:List (Int × α)} {k:Int} {a:α} {t kt et:TypeId} {tk:IntKind} (j:Nat) (hp:pick H j=some (we ik vd v m)) (h:dec n ops E i PY=some (t,v,.int ik k,vd a))
    (ht:Eo P t=some (kt,tk,et)) (g:WI P n ops (i+1) Q (E.putO (eW ops i) undef) (we ik vd v (se m k a) :: cj H j)):WI P n ops i Q E H :=
  Hc h (fun o ho s ok hs=>by
    obtain ⟨r,es,clock,rfl,hb,hm⟩:=hs.q _ (ce hp)
    obtain ⟨ht1,ht2⟩:=wo ht
    have hrl:r < s.w.heap.size:=(Array.getElem?_eq_some_iff.1 hb).1
    have hset:∀ ob:Obj,(s.w.heap.setIfInBounds r ob)[r]?=some ob:=fun ob=>by simp [hrl]
    have hupd:∀ ob:Obj,(we ik vd (.map (some r)) (se m k a)).q ⟨{ s.w with heap:=s.w.heap.setIfInBounds r ob },s.fz⟩→St.Ok ⟨{ s.w with heap:=s.w.heap.setIfInBounds r ob },s.fz⟩∧Holds ⟨{ s.w with heap:=s.w.heap.setIfInBounds r ob },s.fz⟩ (we ik vd (.map (some r)) (se m k a) :: cj H j):=fun ob hq=>by
      exact Holds.upd ok (Holds.out hs hp) (w':={ s.w with heap:=s.w.heap.setIfInBounds r ob }) (by simp) rfl rfl rfl (fun q _ hq'=>by
        have:q≠r:=fun e=>hq' (by rw [e];exact List.mem_singleton.2 rfl)
        simp [Ne.symm this]) rfl hq
    unfold PY at ho
    split at ho
    · rename_i t' x kk y hop
      simp only [Option.some.injEq,Prod.mk.injEq] at ho
      obtain ⟨rfl,hx,hk,hy⟩:=ho
      rcases tY (ik:=ik) (vd:=vd) (tk:=tk) k a es.toList m 0 hm with ⟨g1,g2,g3⟩ | ⟨x0,q,e0,g1,g2,g3,g4,g5⟩
      · obtain ⟨ok',hs'⟩:=hupd (.map (es.push ⟨.int ik k,vd a,clock⟩) (clock+1)) ⟨r,_,_,rfl,hset _,by rw [g3];simp⟩
        refine ⟨⟨_,s.fz⟩,?_,ok',hs'⟩
        unfold execOp
        rw [hop]
        simp only [hx,hk,hy]
        simp [Instr.mapUpdate,run_underlying ht1,MapKept.run_getObj_map hb,pz ht2,rz ht2 g2,MapKept.run_setObj_map _ hb]
      · have hq:es[q]?=some e0:=by simpa using g3
        obtain ⟨ok',hs'⟩:=hupd (.map (es.modify q fun e=>{ e with key:=.int ik k,val:=vd a }) clock) ⟨r,_,_,rfl,hset _,by
          rw [g5,Array.toList_modify,xN (c:=(.int ik k,vd a)) (fun _=>rfl)]⟩
        refine ⟨⟨_,s.fz⟩,?_,ok',hs'⟩
        unfold execOp
        rw [hop]
        simp only [hx,hk,hy]
        have hst:∀ w,(Instr.keyThatStays (.int ik k) (.int ik k)).run P w=.ok (.int ik k) w:=fun w=>by simp [Instr.keyThatStays,Instr.sameBits]
        simp [Instr.mapUpdate,run_underlying ht1,MapKept.run_getObj_map hb,pz ht2,rz ht2 g2,hq,g4,hst,MapKept.run_setObj_map _ hb]
    · cases ho) g
end
end Gw
