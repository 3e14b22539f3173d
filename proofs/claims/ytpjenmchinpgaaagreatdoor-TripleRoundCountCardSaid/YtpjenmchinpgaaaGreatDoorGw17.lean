/- Own words: a range over a function: the iterator runs the loop's body round by round; the mark that it leaves is taken at the function's end. -/
import Derived.Test.YtpjenmchinpgaaaGreatDoorGw16
import Derived.RangeFuncLeaves
import Derived.RangeFuncRecord
import Derived.Below
set_option linter.unusedVariables false
namespace Gw
open Go Gv
/-- a block that is no cells -/
def pn(b:Nat)(o:Obj):aG:=⟨[b],λs=>s.w.heap[b]?=some o,λa c le h hq=>(h b (List.mem_singleton.2 rfl)).trans hq⟩
/-- many assertions as one -/
def Pi(L:List aG):aG:=⟨eB L,λs=>∀x∈L,x.q s,λa c le h hq x hx=>x.st a c le (λk hk=>h k (List.mem_flatMap.2 ⟨x,hx,hk⟩)) (hq x hx)⟩
theorem Ir{s:St}{L R:List aG}:Holds s (Pi L::R)↔Holds s (L++R):=by
 have e:eB (Pi L::R)=eB (L++R):=by
  show eB L++eB R=_
  exact(List.flatMap_append ..).symm
 constructor
 ·intro h
  refine⟨λy hy=>?_,λk hk=>h.own k (by rw[e];exact hk),by rw[←e];exact h.nd⟩
  rcases List.mem_append.1 hy with hy | hy
  ·exact h.q (Pi L) (List.mem_cons_self ..) y hy
  ·exact h.q y (List.mem_cons_of_mem _ hy)
 ·intro h
  refine⟨λy hy=>?_,λk hk=>h.own k (by rw[←e];exact hk),by rw[e];exact h.nd⟩
  rcases List.mem_cons.1 hy with rfl | hy
  ·exact λx hx=>h.q x (List.mem_append_left _ hx)
  ·exact h.q y (List.mem_append_right _ hy)
theorem xg{s:St}{L:List aG}(ok:s.Ok)(h:Holds s L)(o:Obj):St.Ok ⟨s.w.alloc o,s.fz⟩∧Holds ⟨s.w.alloc o,s.fz⟩ (pn s.w.heap.size o::L):=by
 have hsz:(s.w.alloc o).heap.size=s.w.heap.size+1:=World.size_alloc ..
 refine⟨λk hk=>?_,Holds.chg (X:=[]) (F:=L) (Y:=[pn s.w.heap.size o]) (b:=⟨s.w.alloc o,s.fz⟩) ok h ⟨rfl,rfl,rfl,by show s.w.heap.size≤(s.w.alloc o).heap.size;omega,λk hk _=>Go.RowKit.Below.heap_alloc s.w o k hk,λ_ h=>h,λ_ _ _ h=>h⟩ (λy hy=>?_) (λk hk=>?_) ?_⟩
 ·have:=ok k hk;show k<(s.w.alloc o).heap.size;omega
 ·cases List.mem_singleton.1 hy;exact World.alloc_heap_new s.w o
 ·have hk:k=s.w.heap.size:=by simpa[eB,pn] using hk
  subst hk
  exact⟨.inr (Nat.le_refl _),by show s.w.heap.size<(s.w.alloc o).heap.size;omega,λhf=>Nat.lt_irrefl _ (ok _ hf)⟩
 ·simp[eB,pn]
theorem uo{s:St}{L:List aG}{b:Nat}{o:Obj}(ok:s.Ok)(h:Holds s (pn b o::L))(o':Obj):St.Ok ⟨s.w.putObj b o',s.fz⟩∧Holds ⟨s.w.putObj b o',s.fz⟩ (pn b o'::L):=by
 have hb:=h.own b (by simp[eB,pn])
 refine⟨λk hk=>by show k<(s.w.putObj b o').heap.size;rw[World.putObj_size];exact ok k hk,Holds.chg (X:=[pn b o]) (F:=L) (Y:=[pn b o']) (b:=⟨s.w.putObj b o',s.fz⟩) ok h ⟨rfl,rfl,rfl,by show s.w.heap.size≤(s.w.putObj b o').heap.size;rw[World.putObj_size];exact Nat.le_refl _,λk hk hn=>World.putObj_heap_other (λe=>hn (by simp[eB,pn,e])),λ_ h=>h,λ_ _ _ h=>h⟩ (λy hy=>?_) (λk hk=>?_) ?_⟩
 ·cases List.mem_singleton.1 hy;exact World.putObj_heap_same hb.1
 ·have hk:k=b:=by simpa[eB,pn] using hk
  subst hk
  exact⟨.inl (by simp[eB,pn]),by show k<(s.w.putObj k o').heap.size;rw[World.putObj_size];exact hb.1,hb.2⟩
 ·simp[eB,pn]
theorem pA{s:St}{x:aG}{L F:List aG}:Holds s (L++x::F)↔Holds s (x::(L++F)):=⟨λh=>h.perm List.perm_middle,λh=>h.perm List.perm_middle.symm⟩
/-- what a call of yield does -/
def YC(P:Program)(l:Nat)(rc:Loop)(args:Array Value)(L:List aG)(R:List aG→Prop):Prop :=
 ∀F s,s.Ok→Holds s (L++pn l (.loop rc)::F)→args.size=rc.params.size ∧
  RoundIn Fence.wide 0 P l rc.fn ((rc.params.zip args).foldl (λtmps (t,a)=>tmps.setIfInBounds t a) rc.tmps) rc.assign rc.body s.w
   (λe w'=>e=.returned (.bool true)∧∃L' s',R L'∧s'.w=w'∧s'.Ok∧Holds s' (L'++pn l (.loop rc)::F))
/-- the state of a loop whose iterator is at work -/
def yB(l:Nat)(rc:Loop)(L:List aG):aG:=Pi (L++[pn l (.loop rc)])
theorem AX{s:St}{l:Nat}{rc:Loop}{L R:List aG}:Holds s (yB l rc L::R)↔Holds s (L++pn l (.loop rc)::R):=by
 unfold yB
 rw[Ir,List.append_assoc];rfl
def MH(V:List (Nat×Value))(L F:List aG):cQ:=λe E s=>e=.normal∧agree V E∧s.Ok∧Holds s (L++F)
def MW(R:List aG→Prop)(F:List aG):cQ:=λe E s=>e=.normal∧∃L,R L∧s.Ok∧Holds s (L++F)
theorem Oq{V:List (Nat×Value)}{L F:List aG}{E:Env}{H:List aG}(hE:agree V E)(hH:kJ H (L++F)):QH (MH V L F) .normal E H:=λs ok hs=>by
 obtain⟨s',ew,ok',hs'⟩:=hH s ok hs
 exact⟨E,s',λ_=>rfl,ew,rfl,hE,ok',hs'⟩
theorem Ov{R:List aG→Prop}{F:List aG}{E:Env}{H:List aG}(L:List aG)(hR:R L)(hH:kJ H (L++F)):QH (MW R F) .normal E H:=λs ok hs=>by
 obtain⟨s',ew,ok',hs'⟩:=hH s ok hs
 exact⟨E,s',λ_=>rfl,ew,rfl,L,hR,ok',hs'⟩
/-- a round, out of its body's walk -/
theorem H7{P:Program}{n l:Nat}{rc:Loop}{args:Array Value}{L:List aG}{R:List aG→Prop}{E0:Env}{V:List (Nat×Value)}{L1:List aG}(hst:rc.state=.ready)(hpe:rc.pending=none)
  (hsz:args.size=rc.params.size) (hT:Ag ⟨some l,[]⟩ n E0 { tmps:=(rc.params.zip args).foldl (λtmps (t,a)=>tmps.setIfInBounds t a) rc.tmps,defers:=[] })
  (hA:∀F,WH P n rc.assign (MH V L1 F) E0 (L++F)) (hB:∀F j,WH P n rc.body (MW R F) ⟨V,j⟩ (L1++F)):YC P l rc args L R:=by
 intro F s ok hs
 refine⟨hsz,roundIn_of_wpIn (F:=Fence.wide) trivial ?_⟩
 refine wpIn_mono (hA (pn l (.loop rc)::F) s ok hs ⟨some l,[]⟩ _ hT) λe a1 w1 hq=>?_
 obtain⟨E1,s1,ag1,rfl,he,hag,ok1,hs1⟩:=hq
 subst he
 show ∃w2,_
 have h1:=pA.1 hs1
 have hl1:s1.w.heap[l]?=some (.loop rc):=h1.q _ (List.mem_cons_self ..)
 obtain⟨ok2,h2⟩:=uo ok1 h1 (.loop { rc with state:=.busy })
 refine⟨_,run_beginRound hl1 hst,?_⟩
 refine wpIn_mono (hB (pn l (.loop { rc with state:=.busy })::F) E1.get ⟨_,s1.fz⟩ ok2 (pA.2 h2) ⟨some l,[]⟩ a1 (ag1.trim hag)) λe a3 w3 hq=>?_
 obtain⟨E3,s3,ag3,rfl,he,L',hR,ok3,hs3⟩:=hq
 subst he
 have h3:=pA.1 hs3
 have hl3:s3.w.heap[l]?=some (.loop { rc with state:=.busy }):=h3.q _ (List.mem_cons_self ..)
 obtain⟨ok4,h4⟩:=uo ok3 h3 (.loop rc)
 have e5:({ ({ rc with state:=.busy }:Loop) with state:=if(none:Option Code).isNone then .ready else .done,pending:=none }:Loop)=rc:=by
  cases rc;simp only at hst hpe;subst hst hpe;rfl
 have h5:=run_endRound (P:=P) none hl3
 rw[e5] at h5
 exact⟨_,_,h5,rfl,L',⟨_,s3.fz⟩,hR,rfl,ok4,pA.2 h4⟩
def yv(l:Nat):Value:=.func (.yield l) #[] #[]
def PX(E:Env)(o:Oper):Option (Nat×List Value) :=
 match o.op with
 | .call c=>match c.callee with
  | .value x=>match E.ev x with
   | .func (.yield l) first captured=>some (l,first.toList++c.args.toList.map E.ev)
   | _=>none
  | _=>none
 | _=>none
section
variable {P:Program}{n:Nat}{Q:cQ}{E:Env}{H:List aG}{ops:sH}{i:Nat}
theorem IF{o:Oper}{l:Nat}{rc:Loop}{as:List Value}(h:PX E o=some (l,as)){w:World}(hl:w.heap[l]?=some (.loop rc))(hs:as.length=rc.params.size) :
  (execOp E.ev o).run P w=.ok (.round l rc.fn ((rc.params.zip as.toArray).foldl (λtmps (t,a)=>tmps.setIfInBounds t a) rc.tmps) rc.assign rc.body) w:=by
 unfold PX at h
 split at h
 ·rename_i c hop
  split at h
  ·rename_i x hc
   split at h
   ·rename_i l' first captured hx
    simp only[Option.some.injEq,Prod.mk.injEq] at h
    obtain⟨rfl,rfl⟩:=h
    have hr:=run_yield (P:=P) (args:=(first.toList++c.args.toList.map E.ev).toArray) hl (by simpa using hs)
    have e:first++c.args.map E.ev=(first.toList++c.args.toList.map E.ev).toArray:=by apply Array.ext';simp
    unfold execOp
    rw[hop]
    simp only[resolve,hc,hx,Deferred.ofValue,invoke,Sem.run_bind,Sem.run_pure,Result.andThen_ok]
    rw[e]
    exact hr
   ·cases h
  ·cases h
 ·cases h
/-- a call of yield -/
theorem KV{l:Nat}{rc:Loop}{as:List Value}{L:List aG}{R:List aG→Prop}(j:Nat)(hp:pick H j=some (yB l rc L))(hy:YC P l rc as.toArray L R)(h:dec n ops E i PX=some (l,as))
  (g:∀L',R L'→WI P n ops (i+1) Q (E.putO (eX ops i) (.bool true)) (yB l rc L'::ct H j)):WI P n ops i Q E H:=λs ok hs μ a ag=>by
 obtain⟨o,ho,hd,hg,h4,h5⟩:=re h
 rw[h5] at g
 have h1:=AX.1 (hs.perm (kx H j _ hp))
 obtain⟨hsz,hrd⟩:=hy _ s ok h1
 have hl:s.w.heap[l]?=some (.loop rc):=h1.q _ (List.mem_append_right _ (List.mem_cons_self ..))
 have hrun:=IF (P:=P) h4 hl (by simpa using hsz)
 rw[py ho]
 unfold wpListIn
 rw[n1 ag,hg,if_pos rfl]
 have he:a.eval=E.ev:=funext ag.ev
 unfold Oper.wpIn
 rw[he,Oper.semAt_eq _ _ _ (Aw hrun λ_ e=>by cases e),hrun]
 refine⟨λ_ _=>trivial,λh=>(by cases h),?_⟩
 refine RoundIn.mono (F:=Fence.wide) hrd λe w' hR=>?_
 obtain⟨rfl,L',s',hL,rfl,ok',hs'⟩:=hR
 exact g L' hL s' ok' (AX.2 hs') μ _ (ag.putO hd _)
end
/- ---- functions with a range over a function -/
def WF(P:Program)(fn:Func)(c:Code)(R:Ending→World→Prop)(E:Env)(H:List aG):Prop :=
 ∀s,s.Ok→Holds s H→∀a,Ag ⟨none,[]⟩ fn.ntmps E a→c.wpIn Fence.wide 0 P (bodyPostM Fence.wide 0 P fn R) a s.w
def Lr(P:Program)(fn:Func)(y:Code)(R:Ending→World→Prop):cQ
 | .normal,E,s=>∀a,Ag ⟨none,[]⟩ fn.ntmps E a→y.wpIn Fence.wide 0 P (bodyPostM Fence.wide 0 P fn R) a s.w
 | _,_,_=>False
section
variable {P:Program}{fn:Func}{R:Ending→World→Prop}{E:Env}{H:List aG}
theorem AR{x y:Code}(h:WH P fn.ntmps x (Lr P fn y R) E H):WF P fn (.seq x y) R E H:=λs ok hs a ag =>
 wpIn_seq (wpIn_mono (h s ok hs ⟨none,[]⟩ a ag) λe a' w' hq=>by
  obtain⟨E',s',ag',rfl,hq⟩:=hq
  cases e <;> first | exact hq a' ag' | exact hq.elim)
def PQ(P:Program)(fn:Func)(x y:Code)(R:Ending→World→Prop)(E:Env)(H:List aG):Prop :=
 ∀s,s.Ok→Holds s H→∀a,Ag ⟨none,[]⟩ fn.ntmps E a→x.wpIn Fence.wide 0 P (Exit.then (y.wpIn Fence.wide 0 P (bodyPostM Fence.wide 0 P fn R)) (bodyPostM Fence.wide 0 P fn R)) a s.w
def HM(P:Program)(fn:Func)(x y:Code)(R:Ending→World→Prop):cQ
 | .normal,E,s=>∀a,Ag ⟨none,[]⟩ fn.ntmps E a→x.wpIn Fence.wide 0 P (Exit.then (y.wpIn Fence.wide 0 P (bodyPostM Fence.wide 0 P fn R)) (bodyPostM Fence.wide 0 P fn R)) a s.w
 | _,_,_=>False
theorem KW{z x y:Code}(h:WH P fn.ntmps z (HM P fn x y R) E H):WF P fn (.seq (.seq z x) y) R E H:=λs ok hs a ag =>
 wpIn_seq (wpIn_seq (wpIn_mono (h s ok hs ⟨none,[]⟩ a ag) λe a' w' hq=>by
  obtain⟨E',s',ag',rfl,hq⟩:=hq
  cases e <;> first | exact hq a' ag' | exact hq.elim))
theorem Ho{x y:Code}(h:PQ P fn x y R E H):QH (HM P fn x y R) .normal E H:=λs ok hs=>⟨E,s,λ_=>rfl,rfl,λa ag=>h s ok hs a ag⟩
theorem xQ{y:Code}(h:WF P fn y R E H):QH (Lr P fn y R) .normal E H:=λs ok hs=>⟨E,s,λ_=>rfl,rfl,λa ag=>h s ok hs a ag⟩
theorem Em{f:FuncId}{c:Code}{l:List Value}{Pre:List aG}{cQ:Value→List aG→Prop}
  (hf:P.funcs[f]?=some fn) (hb:fn.body=some c) (hn:Nat.ble l.length fn.ntmps=true)
  (h:∀F,WF P fn c (Cc F cQ) ⟨sK 0 l,λ_=>undef⟩ (Pre++F)):Ct P f l Pre cQ:=by
 intro F s ok hs
 refine callsIn_wide.1 (callsIn_of_wp_marks (F:=Fence.wide) (n:=0) hf hb trivial ?_)
 have ag:Ag ⟨none,[]⟩ fn.ntmps ⟨sK 0 l,λ_=>undef⟩ { tmps:=l.toArray++Array.replicate (fn.ntmps-l.toArray.size) undef,defers:=[] }:=by
  have hn':=Nat.le_of_ble_eq_true hn
  refine⟨by simp;omega,rfl,λt=>?_⟩
  show _=j6 (sK 0 l) (λ_=>undef) t
  rw[yq]
  simp only[Nat.not_lt_zero,if_false,Nat.sub_zero,Array.getD_eq_getD_getElem?,Array.getElem?_append,List.getD_eq_getElem?_getD]
  split
  ·simp
  ·rename_i hge
   simp only[List.size_toArray,Nat.not_lt] at hge
   rw[List.getElem?_eq_none (by simpa using hge)]
   simp[Array.getElem?_replicate]
   split <;> rfl
 exact h F s ok hs _ ag
/-- results that lie in slots are read in whatever world -/
def yb:List ResultVar→Bool
 | []=>true
 | .tmp _::r=>yb r
 | _::_=>false
theorem Kz{rs:List ResultVar}(h:yb rs=true)(tm:Array Value):∃l:List Value,∀w:World,(rs.mapM (m:=Sem) λ| .tmp t=>pure (tm.getD t undef) | .cell p t=>do loadVar t (←asAddr (tm.getD p undef))).run P w=.ok l w:=by
 induction rs with
 | nil=>exact⟨[],λw=>rfl⟩
 | cons r rs ih =>
  cases r with
  | tmp t =>
   obtain⟨l,hl⟩:=ih h
   exact⟨tm.getD t undef::l,λw=>by simp only[List.mapM_cons,Sem.run_bind,Sem.run_pure,Result.andThen_ok];rw[hl];simp⟩
  | cell p t=>cases h
theorem B0(h:yb fn.results.toList=true)(tm:Array Value):∃v:Value,∀w:World,(results fn tm).run P w=.ok v w:=by
 obtain⟨l,hl⟩:=Kz (P:=P) h tm
 refine⟨(if h:l.toArray.size=1 then l.toArray[0] else .tuple l.toArray),λw=>?_⟩
 have e:(fn.results.mapM (m:=Sem) λ| .tmp t=>pure (tm.getD t undef) | .cell p t=>do loadVar t (←asAddr (tm.getD p undef))).run P w=.ok l.toArray w:=by
  rw[Array.mapM_eq_mapM_toList,Sem.run_map,hl];rfl
 have e2:(results fn tm).run P w=((fn.results.mapM (m:=Sem) λ| .tmp t=>pure (tm.getD t undef) | .cell p t=>do loadVar t (←asAddr (tm.getD p undef))).run P w).andThen
   (λvs w=>(pure (if h:vs.size=1 then vs[0] else .tuple vs):Sem Value).run P w):=Sem.run_bind ..
 rw[e2,e]
 simp only[Result.andThen_ok,Sem.run_pure]
/-- the range over a function, and what follows it to the function's end -/
theorem H2 {S:Type} {gf:FuncId} {fg:Func} {id:Nat} {g:Operand} {ps:Array Tmp} {asg bd y:Code} {lb:List Value} {xi:aG} {L0:List aG} {F:List aG} {cQ:Value→List aG→Prop} {V:List (Nat × Value)} {L1:S→List aG}
    (hg:E.ev g=.func (.func gf) #[] lb.toArray) (hgf:P.funcs[gf]?=some fg) (hgb:bz P gf=true) (hres:yb fn.results.toList=true) (hH:kJ H (xi :: (L0++F))) (hV:agree V E)
    (hit:∀ (l D:Nat) (fd:FuncId) (T:Array Value),(∀ t,T.getD t undef=E.get t)→T.size=fn.ntmps →
      Ct P gf (yv l :: lb) [xi,yB l { state:=.ready,pending:=none,fn:=fd,tmps:=T,params:=ps,assign:=asg,body:=bd,defers:=D } L0] (fun v L=>∃ x,L=[xi,yB l { state:=.ready,pending:=none,fn:=fd,tmps:=T,params:=ps,assign:=asg,body:=bd,defers:=D } (L1 x)]))
    (hy:∀ x F' j,WH P fn.ntmps y (Bq P fn (Cc F' cQ)) ⟨V,j⟩ (L1 x++F')) :
    PQ P fn (.block id (.rangeFunc g ps asg bd)) y (Cc F cQ) E H:=by
  intro s0 ok0 hs0 a ag
  obtain ⟨s,ew,ok,hs⟩:=hH s0 ok0 hs0
  rw [← ew]
  refine wpIn_block (wpIn_rangeFunc fun fd _=>?_)
  obtain ⟨okD,hsD⟩:=xg ok hs (.deferred (some []))
  obtain ⟨okL,hsL⟩:=xg okD hsD (.loop { state:=.ready,pending:=none,fn:=fd,tmps:=a.tmps,params:=ps,assign:=asg,body:=bd,defers:=s.w.heap.size })
  have hszD:(s.w.alloc (.deferred (some []))).heap.size=s.w.heap.size+1:=World.size_alloc ..
  have hsL':Holds ⟨((s.w.alloc (.deferred (some []))).alloc (.loop { state:=.ready,pending:=none,fn:=fd,tmps:=a.tmps,params:=ps,assign:=asg,body:=bd,defers:=s.w.heap.size })),s.fz⟩ ([xi,yB (s.w.heap.size+1) { state:=.ready,pending:=none,fn:=fd,tmps:=a.tmps,params:=ps,assign:=asg,body:=bd,defers:=s.w.heap.size } L0]++(pn s.w.heap.size (.deferred (some [])) :: F)):=by
    have h1:=hsL
    simp only [hszD] at h1
    refine Holds.perm ((AX (R:=xi :: pn s.w.heap.size (.deferred (some [])) :: F)).2 (h1.perm ?_)) (List.Perm.swap _ _ _)
    refine (List.Perm.cons _ ?_).trans List.perm_middle.symm
    refine (List.Perm.swap _ _ _).trans ?_
    refine (List.Perm.cons _ List.perm_middle.symm).trans ?_
    exact List.perm_middle.symm
  generalize hW:((s.w.alloc (.deferred (some []))).alloc (.loop { state:=.ready,pending:=none,fn:=fd,tmps:=a.tmps,params:=ps,assign:=asg,body:=bd,defers:=s.w.heap.size }))=W at *
  have hcall:=hit (s.w.heap.size+1) s.w.heap.size fd a.tmps ag.get ag.size _ _ okL hsL'
  refine ⟨s.w.heap.size+1,[{ target:=.collected s.w.heap.size,args:=#[] }],W,{ target:=.fn (.func gf) lb.toArray,args:=#[yv (s.w.heap.size+1)] },W,gf,(yv (s.w.heap.size+1) :: lb).toArray,W,hW ▸ run_enterLoop_outer fd a.tmps ps asg bd,?_,fun _ _=>trivial,?_,fun h=>(by cases h),?_⟩
  · have hev:a.eval g=.func (.func gf) #[] lb.toArray:=(ag.ev g).trans hg
    simp only [resolve,hev]
    simp [go_sem,yv]
  · have:=hgb
    unfold bz at this
    rw [hgf] at this
    simp only [Bool.and_eq_true,Bool.not_eq_true'] at this
    obtain ⟨hb1,hb2⟩:=this
    have hb':¬ fg.body=none:=by intro e;rw [e] at hb1;cases hb1
    have hn' : ¬ fg.name = "runtime.NumGoroutine" := by simpa using hb2
    simp [invoke,callFunc,hgf,hb',hn']
  · refine (callsIn_wide (n:=0 - 1)).2 hcall |>.mono fun e w' hR=>?_
    obtain ⟨v,L5,s',rfl,rfl,ok',⟨x,rfl⟩,hs'⟩:=hR
    have h1:=AX.1 (Holds.tail hs')
    have h2:=pA.1 h1
    have hl:s'.w.heap[s.w.heap.size+1]?=_:=h2.q _ (List.mem_cons_self ..)
    obtain ⟨ok3,h3⟩:=uo ok' h2 (.loop { ({ state:=.ready,pending:=none,fn:=fd,tmps:=a.tmps,params:=ps,assign:=asg,body:=bd,defers:=s.w.heap.size }:Loop) with state:=.exhausted })
    refine ⟨none,_,run_endLoop (P:=P) hl (by simp),?_⟩
    show y.wpIn _ _ _ _ _ _
    have ag2:Ag ⟨none,[{ target:=.collected s.w.heap.size,args:=#[] }]⟩ fn.ntmps E { a with defers:=[{ target:=.collected s.w.heap.size,args:=#[] }]++a.defers }:=⟨ag.size,by rw [ag.defers];rfl,ag.get⟩
    have h4:Holds ⟨_,s'.fz⟩ (L1 x++(pn s.w.heap.size (.deferred (some [])) :: F)):=h3.tail
    refine wpIn_mono (hy x (pn s.w.heap.size (.deferred (some [])) :: F) E.get ⟨_,s'.fz⟩ ok3 h4 ⟨none,[{ target:=.collected s.w.heap.size,args:=#[] }]⟩ _ (ag2.trim hV)) fun e a5 w5 hq=>?_
    obtain ⟨E5,s5,ag5,rfl,hq⟩:=hq
    have fin:∀ v,(results fn a5.tmps).run P s5.w=.ok v s5.w→Cc (pn s.w.heap.size (.deferred (some [])) :: F) cQ (.returned v) s5.w→LeavesInM Fence.wide 0 P fn a5.tmps (Cc F cQ) a5.defers .returning s5.w:=fun v hv hR=>by
      rw [ag5.defers]
      obtain ⟨v',L',s6,e6,e7,ok6,hp6,hs6⟩:=hR
      cases e6
      have h6:=pA.1 hs6
      have hd6:s6.w.heap[s.w.heap.size]?=some (.deferred (some [])):=h6.q _ (List.mem_cons_self ..)
      obtain ⟨ok7,h7⟩:=uo ok6 h6 (.deferred none)
      rw [← e7]
      refine ⟨by simp,.inl ⟨s.w.heap.size,_,rfl,run_takeDeferred hd6,?_⟩⟩
      obtain ⟨u,hu⟩:=B0 (P:=P) hres a5.tmps
      have huv:v=u:=by
        have:=hu s5.w
        rw [hv] at this
        cases this;rfl
      subst huv
      exact ⟨_,hu _,_,L',⟨_,s6.fz⟩,rfl,rfl,ok7,hp6,h7.tail⟩
    cases e with
    | normal=>obtain ⟨v,hv,hR⟩:=hq _ a5 ag5;exact fin v hv hR
    | ret=>obtain ⟨v,hv,hR⟩:=hq _ a5 ag5;exact fin v hv hR
    | exit i=>exact hq.elim
    | goto l=>exact hq.elim
    | panic ch=>exact hq.elim
    | outgrown=>exact hq.elim
/-- an iterator that counts down from the captured number -/
def Fw(P:Program)(gf:FuncId)(e:TypeId):Prop:=∀(S G:Type) (body:Int→S→Option S) (HL:S→G→List aG) (n:Int) (s0 r:S) (g0:G) (l:Nat) (rc:Loop) (b:Nat),
 (∀k st g st',body k st=some st'→YC P l rc #[.int .i64 k] (HL st g) (λL=>∃g',L=HL st' g'))→NV body n s0=some r →
 Ct P gf [yv l,.pointer (some ⟨b,0,none⟩)] [bH (.pointer (some ⟨b,0,none⟩)) e [.int .i64 n],yB l rc (HL s0 g0)] (λv L=>∃g',L=[bH (.pointer (some ⟨b,0,none⟩)) e [.int .i64 n],yB l rc (HL r g')])
theorem HZ{S G:Type}{body:Int→S→Option S}{n:Int}{s0 r:S}{gf:FuncId}{e:TypeId}{fg:Func}{id p b:Nat}{g:Operand}{asg bd y:Code}{F:List aG}{cQ:Value→List aG→Prop}{HL:S→G→List aG}{V:List (Nat×Value)}{V1:Int→List (Nat×Value)}
  (g0:G) (hl:NV body n s0=some r) (hit:Fw P gf e) (hgf:P.funcs[gf]?=some fg) (hgb:bz P gf=true) (hg:E.ev g=.func (.func gf) #[] #[.pointer (some ⟨b,0,none⟩)]) (hp:Nat.blt p fn.ntmps=true) (hres:yb fn.results.toList=true) (hH:kJ H ((bH (.pointer (some ⟨b,0,none⟩)) e [.int .i64 n]::HL s0 g0)++F)) (hV:agree V E)
  (hA:∀k st g F',WH P fn.ntmps asg (MH (V1 k) (HL st g) F') (E.put p (.int .i64 k)) (HL st g++F'))
  (hB:∀k st g st' F' j,body k st=some st'→WH P fn.ntmps bd (MW (λL=>∃g',L=HL st' g') F') ⟨V1 k,j⟩ (HL st g++F'))
  (hy:∀g F' j,WH P fn.ntmps y (Bq P fn (Cc F' cQ)) ⟨V,j⟩ (HL r g++F')) :
  PQ P fn (.block id (.rangeFunc g #[p] asg bd)) y (Cc F cQ) E H:=by
 refine H2 (S:=G) (xi:=bH (.pointer (some ⟨b,0,none⟩)) e [.int .i64 n]) (L0:=HL s0 g0) (L1:=λg=>HL r g) (lb:=[.pointer (some ⟨b,0,none⟩)]) hg hgf hgb hres hH hV (λl D fd T hT hN=>?_) hy
 refine hit S G body HL n s0 r g0 l _ b (λk st g st' hb=>H7 (n:=fn.ntmps) (E0:=E.put p (.int .i64 k)) (V:=V1 k) (L1:=HL st g) rfl rfl rfl ?_ (λF'=>hA k st g F') (λF' j=>hB k st g st' F' j hb)) hl
 have ag0:Ag ⟨some l,[]⟩ fn.ntmps E { tmps:=T,defers:=[] }:=⟨hN,rfl,hT⟩
 have h1:=ag0.put (d:=p) (by simpa[Nat.blt_eq] using hp) (.int .i64 k)
 have e:((#[p]:Array Tmp).zip #[Value.int .i64 k]).foldl (λtmps (x:Tmp×Value)=>tmps.setIfInBounds x.1 x.2) T=T.setIfInBounds p (.int .i64 k):=by simp
 show Ag _ _ _ { tmps:=_,defers:=[] }
 rw[show((#[p]:Array Tmp).zip #[Value.int .i64 k]).foldl (λtmps (t,a)=>tmps.setIfInBounds t a) T=T.setIfInBounds p (.int .i64 k) from e]
 exact h1
end
end Gw
