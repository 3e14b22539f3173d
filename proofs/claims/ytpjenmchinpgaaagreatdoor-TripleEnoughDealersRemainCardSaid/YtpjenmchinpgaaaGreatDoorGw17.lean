/- Own words: a range over a function: the iterator runs the loop's body round by round; the mark that it leaves is taken at the function's end. -/
import Derived.Test.YtpjenmchinpgaaaGreatDoorGw16
import Derived.RangeFuncLeaves
import Derived.RangeFuncRecord
import Derived.Below
set_option linter.unusedVariables false
namespace Gw
open Go Gv
/-- a block that is no cells -/
def pj (b:Nat) (o:Obj):aE:=⟨[b],fun s=>s.w.heap[b]?=some o,fun a c le h hq=>(h b (List.mem_singleton.2 rfl)).trans hq⟩
/-- many assertions as one -/
def Ow (L:List aE):aE:=⟨eg L,fun s=>∀ x ∈ L,x.q s,fun a c le h hq x hx=>x.st a c le (fun k hk=>h k (List.mem_flatMap.2 ⟨x,hx,hk⟩)) (hq x hx)⟩
theorem HD {s:St} {L R:List aE}:Holds s (Ow L :: R) ↔ Holds s (L++R):=by
  have e:eg (Ow L :: R)=eg (L++R):=by
    show eg L++eg R=_
    exact (List.flatMap_append ..).symm
  constructor
  · intro h
    refine ⟨fun y hy=>?_,fun k hk=>h.own k (by rw [e];exact hk),by rw [← e];exact h.nd⟩
    rcases List.mem_append.1 hy with hy | hy
    · exact h.q (Ow L) (List.mem_cons_self ..) y hy
    · exact h.q y (List.mem_cons_of_mem _ hy)
  · intro h
    refine ⟨fun y hy=>?_,fun k hk=>h.own k (by rw [← e];exact hk),by rw [e];exact h.nd⟩
    rcases List.mem_cons.1 hy with rfl | hy
    · exact fun x hx=>h.q x (List.mem_append_left _ hx)
    · exact h.q y (List.mem_append_right _ hy)
theorem wA {s:St} {L:List aE} (ok:s.Ok) (h:Holds s L) (o:Obj):St.Ok ⟨s.w.alloc o,s.fz⟩∧Holds ⟨s.w.alloc o,s.fz⟩ (pj s.w.heap.size o :: L):=by
  have hsz:(s.w.alloc o).heap.size=s.w.heap.size+1:=World.size_alloc ..
  refine ⟨fun k hk=>?_,Holds.chg (X:=[]) (F:=L) (Y:=[pj s.w.heap.size o]) (b:=⟨s.w.alloc o,s.fz⟩) ok h ⟨rfl,rfl,rfl,by show s.w.heap.size≤(s.w.alloc o).heap.size;omega,fun k hk _=>Go.RowKit.Below.heap_alloc s.w o k hk,fun _ h=>h,fun _ _ _ h=>h⟩ (fun y hy=>?_) (fun k hk=>?_) ?_⟩
  · have:=ok k hk;show k < (s.w.alloc o).heap.size;omega
  · cases List.mem_singleton.1 hy;exact World.alloc_heap_new s.w o
  · have hk:k=s.w.heap.size:=by simpa [eg,pj] using hk
    subst hk
    exact ⟨.inr (Nat.le_refl _),by show s.w.heap.size < (s.w.alloc o).heap.size;omega,fun hf=>Nat.lt_irrefl _ (ok _ hf)⟩
  · simp [eg,pj]
theorem ud {s:St} {L:List aE} {b:Nat} {o:Obj} (ok:s.Ok) (h:Holds s (pj b o :: L)) (o':Obj):St.Ok ⟨s.w.putObj b o',s.fz⟩∧Holds ⟨s.w.putObj b o',s.fz⟩ (pj b o' :: L):=by
  have hb:=h.own b (by simp [eg,pj])
  refine ⟨fun k hk=>by show k < (s.w.putObj b o').heap.size;rw [World.putObj_size];exact ok k hk,Holds.chg (X:=[pj b o]) (F:=L) (Y:=[pj b o']) (b:=⟨s.w.putObj b o',s.fz⟩) ok h ⟨rfl,rfl,rfl,by show s.w.heap.size≤(s.w.putObj b o').heap.size;rw [World.putObj_size];exact Nat.le_refl _,fun k hk hn=>World.putObj_heap_other (fun e=>hn (by simp [eg,pj,e])),fun _ h=>h,fun _ _ _ h=>h⟩ (fun y hy=>?_) (fun k hk=>?_) ?_⟩
  · cases List.mem_singleton.1 hy;exact World.putObj_heap_same hb.1
  · have hk:k=b:=by simpa [eg,pj] using hk
    subst hk
    exact ⟨.inl (by simp [eg,pj]),by show k < (s.w.putObj k o').heap.size;rw [World.putObj_size];exact hb.1,hb.2⟩
  · simp [eg,pj]
theorem pu {s:St} {x:aE} {L F:List aE}:Holds s (L++x :: F) ↔ Holds s (x :: (L++F)):=⟨fun h=>h.perm List.perm_middle,fun h=>h.perm List.perm_middle.symm⟩
/-- what a call of yield does -/
def YC (P:Program) (l:Nat) (rc:Loop) (args:Array Value) (L:List aE) (R:List aE→Prop):Prop :=
  ∀ F s,s.Ok→Holds s (L++pj l (.loop rc) :: F)→args.size=rc.params.size ∧
    RoundIn Fence.wide 0 P l rc.fn ((rc.params.zip args).foldl (fun tmps (t,a)=>tmps.setIfInBounds t a) rc.tmps) rc.assign rc.body s.w
      (fun e w'=>e=.returned (.bool true)∧∃ L' s',R L'∧s'.w=w'∧s'.Ok∧Holds s' (L'++pj l (.loop rc) :: F))
/-- the state of a loop whose iterator is at work -/
def yB (l:Nat) (rc:Loop) (L:List aE):aE:=Ow (L++[pj l (.loop rc)])
theorem Ar {s:St} {l:Nat} {rc:Loop} {L R:List aE}:Holds s (yB l rc L :: R) ↔ Holds s (L++pj l (.loop rc) :: R):=by
  unfold yB
  rw [HD,List.append_assoc];rfl
def LR (V:List (Nat × Value)) (L F:List aE):cM:=fun e E s=>e=.normal∧agree V E∧s.Ok∧Holds s (L++F)
def Mc (R:List aE→Prop) (F:List aE):cM:=fun e E s=>e=.normal∧∃ L,R L∧s.Ok∧Holds s (L++F)
theorem ND {V:List (Nat × Value)} {L F:List aE} {E:Env} {H:List aE} (hE:agree V E) (hH:kj H (L++F)):QH (LR V L F) .normal E H:=fun s ok hs=>by
  obtain ⟨s',ew,ok',hs'⟩:=hH s ok hs
  exact ⟨E,s',fun _=>rfl,ew,rfl,hE,ok',hs'⟩
theorem NG {R:List aE→Prop} {F:List aE} {E:Env} {H:List aE} (L:List aE) (hR:R L) (hH:kj H (L++F)):QH (Mc R F) .normal E H:=fun s ok hs=>by
  obtain ⟨s',ew,ok',hs'⟩:=hH s ok hs
  exact ⟨E,s',fun _=>rfl,ew,rfl,L,hR,ok',hs'⟩
/-- a round, out of its body's walk -/
theorem Hk {P:Program} {n l:Nat} {rc:Loop} {args:Array Value} {L:List aE} {R:List aE→Prop} {E0:Env} {V:List (Nat × Value)} {L1:List aE} (hst:rc.state=.ready) (hpe:rc.pending=none)
    (hsz:args.size=rc.params.size) (hT:Ag ⟨some l,[]⟩ n E0 { tmps:=(rc.params.zip args).foldl (fun tmps (t,a)=>tmps.setIfInBounds t a) rc.tmps,defers:=[] })
    (hA:∀ F,WH P n rc.assign (LR V L1 F) E0 (L++F)) (hB:∀ F j,WH P n rc.body (Mc R F) ⟨V,j⟩ (L1++F)):YC P l rc args L R:=by
  intro F s ok hs
  refine ⟨hsz,roundIn_of_wpIn (F:=Fence.wide) trivial ?_⟩
  refine wpIn_mono (hA (pj l (.loop rc) :: F) s ok hs ⟨some l,[]⟩ _ hT) fun e a1 w1 hq=>?_
  obtain ⟨E1,s1,ag1,rfl,he,hag,ok1,hs1⟩:=hq
  subst he
  show ∃ w2,_
  have h1:=pu.1 hs1
  have hl1:s1.w.heap[l]?=some (.loop rc):=h1.q _ (List.mem_cons_self ..)
  obtain ⟨ok2,h2⟩:=ud ok1 h1 (.loop { rc with state:=.busy })
  refine ⟨_,run_beginRound hl1 hst,?_⟩
  refine wpIn_mono (hB (pj l (.loop { rc with state:=.busy }) :: F) E1.get ⟨_,s1.fz⟩ ok2 (pu.2 h2) ⟨some l,[]⟩ a1 (ag1.trim hag)) fun e a3 w3 hq=>?_
  obtain ⟨E3,s3,ag3,rfl,he,L',hR,ok3,hs3⟩:=hq
  subst he
  have h3:=pu.1 hs3
  have hl3:s3.w.heap[l]?=some (.loop { rc with state:=.busy }):=h3.q _ (List.mem_cons_self ..)
  obtain ⟨ok4,h4⟩:=ud ok3 h3 (.loop rc)
  have e5:({ ({ rc with state:=.busy }:Loop) with state:=if (none:Option Code).isNone then .ready else .done,pending:=none }:Loop)=rc:=by
    cases rc;simp only at hst hpe;subst hst hpe;rfl
  have h5:=run_endRound (P:=P) none hl3
  rw [e5] at h5
  exact ⟨_,_,h5,rfl,L',⟨_,s3.fz⟩,hR,rfl,ok4,pu.2 h4⟩
def yv (l:Nat):Value:=.func (.yield l) #[] #[]
def O3 (E:Env) (o:Oper):Option (Nat × List Value) :=
  match o.op with
  | .call c=>match c.callee with
    | .value x=>match E.ev x with
      | .func (.yield l) first captured=>some (l,first.toList++c.args.toList.map E.ev)
      | _=>none
    | _=>none
  | _=>none
section
variable {P:Program} {n:Nat} {Q:cM} {E:Env} {H:List aE} {ops:sO} {i:Nat}
theorem HT {o:Oper} {l:Nat} {rc:Loop} {as:List Value} (h:O3 E o=some (l,as)) {w:World} (hl:w.heap[l]?=some (.loop rc)) (hs:as.length=rc.params.size) :
    (execOp E.ev o).run P w=.ok (.round l rc.fn ((rc.params.zip as.toArray).foldl (fun tmps (t,a)=>tmps.setIfInBounds t a) rc.tmps) rc.assign rc.body) w:=by
  unfold O3 at h
  split at h
  · rename_i c hop
    split at h
    · rename_i x hc
      split at h
      · rename_i l' first captured hx
        simp only [Option.some.injEq,Prod.mk.injEq] at h
        obtain ⟨rfl,rfl⟩:=h
        have hr:=run_yield (P:=P) (args:=(first.toList++c.args.toList.map E.ev).toArray) hl (by simpa using hs)
        have e:first++c.args.map E.ev=(first.toList++c.args.toList.map E.ev).toArray:=by apply Array.ext';simp
        unfold execOp
        rw [hop]
        simp only [resolve,hc,hx,Deferred.ofValue,invoke,Sem.run_bind,Sem.run_pure,Result.andThen_ok]
        rw [e]
        exact hr
      · cases h
    · cases h
  · cases h
/-- a call of yield -/
theorem J3 {l:Nat} {rc:Loop} {as:List Value} {L:List aE} {R:List aE→Prop} (j:Nat) (hp:pick H j=some (yB l rc L)) (hy:YC P l rc as.toArray L R) (h:dec n ops E i O3=some (l,as))
    (g:∀ L',R L'→WI P n ops (i+1) Q (E.putO (eW ops i) (.bool true)) (yB l rc L' :: cj H j)):WI P n ops i Q E H:=fun s ok hs μ a ag=>by
  obtain ⟨o,ho,hd,hg,h4,h5⟩:=rj h
  rw [h5] at g
  have h1:=Ar.1 (hs.perm (jU H j _ hp))
  obtain ⟨hsz,hrd⟩:=hy _ s ok h1
  have hl:s.w.heap[l]?=some (.loop rc):=h1.q _ (List.mem_append_right _ (List.mem_cons_self ..))
  have hrun:=HT (P:=P) h4 hl (by simpa using hsz)
  rw [pq ho]
  unfold wpListIn
  rw [nu ag,hg,if_pos rfl]
  have he:a.eval=E.ev:=funext ag.ev
  unfold Oper.wpIn
  rw [he,Oper.semAt_eq _ _ _ (zX hrun fun _ e=>by cases e),hrun]
  refine ⟨fun _ _=>trivial,fun h=>(by cases h),?_⟩
  refine RoundIn.mono (F:=Fence.wide) hrd fun e w' hR=>?_
  obtain ⟨rfl,L',s',hL,rfl,ok',hs'⟩:=hR
  exact g L' hL s' ok' (Ar.2 hs') μ _ (ag.putO hd _)
end
/- ---- functions with a range over a function -/
def WF (P:Program) (fn:Func) (c:Code) (R:Ending→World→Prop) (E:Env) (H:List aE):Prop :=
  ∀ s,s.Ok→Holds s H→∀ a,Ag ⟨none,[]⟩ fn.ntmps E a→c.wpIn Fence.wide 0 P (bodyPostM Fence.wide 0 P fn R) a s.w
def KH (P:Program) (fn:Func) (y:Code) (R:Ending→World→Prop):cM
  | .normal,E,s=>∀ a,Ag ⟨none,[]⟩ fn.ntmps E a→y.wpIn Fence.wide 0 P (bodyPostM Fence.wide 0 P fn R) a s.w
  | _,_,_=>False
section
variable {P:Program} {fn:Func} {R:Ending→World→Prop} {E:Env} {H:List aE}
theorem Am {x y:Code} (h:WH P fn.ntmps x (KH P fn y R) E H):WF P fn (.seq x y) R E H:=fun s ok hs a ag =>
  wpIn_seq (wpIn_mono (h s ok hs ⟨none,[]⟩ a ag) fun e a' w' hq=>by
    obtain ⟨E',s',ag',rfl,hq⟩:=hq
    cases e <;> first | exact hq a' ag' | exact hq.elim)
def OX (P:Program) (fn:Func) (x y:Code) (R:Ending→World→Prop) (E:Env) (H:List aE):Prop :=
  ∀ s,s.Ok→Holds s H→∀ a,Ag ⟨none,[]⟩ fn.ntmps E a→x.wpIn Fence.wide 0 P (Exit.then (y.wpIn Fence.wide 0 P (bodyPostM Fence.wide 0 P fn R)) (bodyPostM Fence.wide 0 P fn R)) a s.w
def GY (P:Program) (fn:Func) (x y:Code) (R:Ending→World→Prop):cM
  | .normal,E,s=>∀ a,Ag ⟨none,[]⟩ fn.ntmps E a→x.wpIn Fence.wide 0 P (Exit.then (y.wpIn Fence.wide 0 P (bodyPostM Fence.wide 0 P fn R)) (bodyPostM Fence.wide 0 P fn R)) a s.w
  | _,_,_=>False
theorem J4 {z x y:Code} (h:WH P fn.ntmps z (GY P fn x y R) E H):WF P fn (.seq (.seq z x) y) R E H:=fun s ok hs a ag =>
  wpIn_seq (wpIn_seq (wpIn_mono (h s ok hs ⟨none,[]⟩ a ag) fun e a' w' hq=>by
    obtain ⟨E',s',ag',rfl,hq⟩:=hq
    cases e <;> first | exact hq a' ag' | exact hq.elim))
theorem GC {x y:Code} (h:OX P fn x y R E H):QH (GY P fn x y R) .normal E H:=fun s ok hs=>⟨E,s,fun _=>rfl,rfl,fun a ag=>h s ok hs a ag⟩
theorem xj {y:Code} (h:WF P fn y R E H):QH (KH P fn y R) .normal E H:=fun s ok hs=>⟨E,s,fun _=>rfl,rfl,fun a ag=>h s ok hs a ag⟩
theorem DG {f:FuncId} {c:Code} {l:List Value} {Pre:List aE} {cM:Value→List aE→Prop}
    (hf:P.funcs[f]?=some fn) (hb:fn.body=some c) (hn:Nat.ble l.length fn.ntmps=true)
    (h:∀ F,WF P fn c (BL F cM) ⟨sS 0 l,fun _=>undef⟩ (Pre++F)):Ct P f l Pre cM:=by
  intro F s ok hs
  refine callsIn_wide.1 (callsIn_of_wp_marks (F:=Fence.wide) (n:=0) hf hb trivial ?_)
  have ag:Ag ⟨none,[]⟩ fn.ntmps ⟨sS 0 l,fun _=>undef⟩ { tmps:=l.toArray++Array.replicate (fn.ntmps - l.toArray.size) undef,defers:=[] }:=by
    have hn':=Nat.le_of_ble_eq_true hn
    refine ⟨by simp;omega,rfl,fun t=>?_⟩
    show _=jB (sS 0 l) (fun _=>undef) t
    rw [xK]
    simp only [Nat.not_lt_zero,if_false,Nat.sub_zero,Array.getD_eq_getD_getElem?,Array.getElem?_append,List.getD_eq_getElem?_getD]
    split
    · simp
    · rename_i hge
      simp only [List.size_toArray,Nat.not_lt] at hge
      rw [List.getElem?_eq_none (by simpa using hge)]
      simp [Array.getElem?_replicate]
      split <;> rfl
  exact h F s ok hs _ ag
/-- results that lie in slots are read in whatever world -/
def xv:List ResultVar→Bool
  | []=>true
  | .tmp _ :: r=>xv r
  | _ :: _=>false
theorem JM {rs:List ResultVar} (h:xv rs=true) (tm:Array Value):∃ l:List Value,∀ w:World,(rs.mapM (m:=Sem) fun | .tmp t=>pure (tm.getD t undef) | .cell p t=>do loadVar t (← asAddr (tm.getD p undef))).run P w=.ok l w:=by
  induction rs with
  | nil=>exact ⟨[],fun w=>rfl⟩
  | cons r rs ih =>
    cases r with
    | tmp t =>
      obtain ⟨l,hl⟩:=ih h
      exact ⟨tm.getD t undef :: l,fun w=>by simp only [List.mapM_cons,Sem.run_bind,Sem.run_pure,Result.andThen_ok];rw [hl];simp⟩
    | cell p t=>cases h
theorem Bz (h:xv fn.results.toList=true) (tm:Array Value):∃ v:Value,∀ w:World,(results fn tm).run P w=.ok v w:=by
  obtain ⟨l,hl⟩:=JM (P:=P) h tm
  refine ⟨(if h:l.toArray.size=1 then l.toArray[0] else .tuple l.toArray),fun w=>?_⟩
  have e:(fn.results.mapM (m:=Sem) fun | .tmp t=>pure (tm.getD t undef) | .cell p t=>do loadVar t (← asAddr (tm.getD p undef))).run P w=.ok l.toArray w:=by
    rw [Array.mapM_eq_mapM_toList,Sem.run_map,hl];rfl
  have e2:(results fn tm).run P w=((fn.results.mapM (m:=Sem) fun | .tmp t=>pure (tm.getD t undef) | .cell p t=>do loadVar t (← asAddr (tm.getD p undef))).run P w).andThen
      (fun vs w=>(pure (if h:vs.size=1 then vs[0] else .tuple vs):Sem Value).run P w):=Sem.run_bind ..
  rw [e2,e]
  simp only [Result.andThen_ok,Sem.run_pure]
/-- the range over a function, and what follows it to the function's end -/
theorem He {S:Type} {gf:FuncId} {fg:Func} {id:Nat} {g:Operand} {ps:Array Tmp} {asg bd y:Code} {lb:List Value} {xi:aE} {L0:List aE} {F:List aE} {cM:Value→List aE→Prop} {V:List (Nat × Value)} {L1:S→List aE}
    (hg:E.ev g=.func (.func gf) #[] lb.toArray) (hgf:P.funcs[gf]?=some fg) (hgb:bz P gf=true) (hres:xv fn.results.toList=true) (hH:kj H (xi :: (L0++F))) (hV:agree V E)
    (hit:∀ (l D:Nat) (fd:FuncId) (T:Array Value),(∀ t,T.getD t undef=E.get t)→T.size=fn.ntmps →
      Ct P gf (yv l :: lb) [xi,yB l { state:=.ready,pending:=none,fn:=fd,tmps:=T,params:=ps,assign:=asg,body:=bd,defers:=D } L0] (fun v L=>∃ x,L=[xi,yB l { state:=.ready,pending:=none,fn:=fd,tmps:=T,params:=ps,assign:=asg,body:=bd,defers:=D } (L1 x)]))
    (hy:∀ x F' j,WH P fn.ntmps y (AQ P fn (BL F' cM)) ⟨V,j⟩ (L1 x++F')) :
    OX P fn (.block id (.rangeFunc g ps asg bd)) y (BL F cM) E H:=by
  intro s0 ok0 hs0 a ag
  obtain ⟨s,ew,ok,hs⟩:=hH s0 ok0 hs0
  rw [← ew]
  refine wpIn_block (wpIn_rangeFunc fun fd _=>?_)
  obtain ⟨okD,hsD⟩:=wA ok hs (.deferred (some []))
  obtain ⟨okL,hsL⟩:=wA okD hsD (.loop { state:=.ready,pending:=none,fn:=fd,tmps:=a.tmps,params:=ps,assign:=asg,body:=bd,defers:=s.w.heap.size })
  have hszD:(s.w.alloc (.deferred (some []))).heap.size=s.w.heap.size+1:=World.size_alloc ..
  have hsL':Holds ⟨((s.w.alloc (.deferred (some []))).alloc (.loop { state:=.ready,pending:=none,fn:=fd,tmps:=a.tmps,params:=ps,assign:=asg,body:=bd,defers:=s.w.heap.size })),s.fz⟩ ([xi,yB (s.w.heap.size+1) { state:=.ready,pending:=none,fn:=fd,tmps:=a.tmps,params:=ps,assign:=asg,body:=bd,defers:=s.w.heap.size } L0]++(pj s.w.heap.size (.deferred (some [])) :: F)):=by
    have h1:=hsL
    simp only [hszD] at h1
    refine Holds.perm ((Ar (R:=xi :: pj s.w.heap.size (.deferred (some [])) :: F)).2 (h1.perm ?_)) (List.Perm.swap _ _ _)
    refine (List.Perm.cons _ ?_).trans List.perm_middle.symm
    refine (List.Perm.swap _ _ _).trans ?_
    refine (List.Perm.cons _ List.perm_middle.symm).trans ?_
    exact List.perm_middle.symm
  generalize hW:((s.w.alloc (.deferred (some []))).alloc (.loop { state:=.ready,pending:=none,fn:=fd,tmps:=a.tmps,params:=ps,assign:=asg,body:=bd,defers:=s.w.heap.size }))=W at *
  have hcall:=hit (s.w.heap.size+1) s.w.heap.size fd a.tmps ag.get ag.size _ _ okL hsL'
  refine ⟨s.w.heap.size+1,[{ target:=.collected s.w.heap.size,args:=#[] }],W,{ target:=.fn (.func gf) lb.toArray,args:=#[yv (s.w.heap.size+1)] },W,gf,(yv (s.w.heap.size+1) :: lb).toArray,W,hW ▸ run_enterLoop_outer fd a.tmps ps asg bd,?_,fun _ _=>trivial,?_,fun h=>(by cases h),?_⟩
  · have hev:a.eval g=.func (.func gf) #[] lb.toArray:=(ag.ev g).trans hg
    simp only [resolve,hev]
    simp [go_sem,yv]
  · have:=hgb
    unfold bz at this
    rw [hgf] at this
    simp only [Bool.and_eq_true,Bool.not_eq_true'] at this
    obtain ⟨hb1,hb2⟩:=this
    have hb':¬ fg.body=none:=by intro e;rw [e] at hb1;cases hb1
    have hn' : ¬ fg.name = "runtime.NumGoroutine" := by simpa using hb2
    simp [invoke,callFunc,hgf,hb',hn']
  · refine (callsIn_wide (n:=0 - 1)).2 hcall |>.mono fun e w' hR=>?_
    obtain ⟨v,L5,s',rfl,rfl,ok',⟨x,rfl⟩,hs'⟩:=hR
    have h1:=Ar.1 (Holds.tail hs')
    have h2:=pu.1 h1
    have hl:s'.w.heap[s.w.heap.size+1]?=_:=h2.q _ (List.mem_cons_self ..)
    obtain ⟨ok3,h3⟩:=ud ok' h2 (.loop { ({ state:=.ready,pending:=none,fn:=fd,tmps:=a.tmps,params:=ps,assign:=asg,body:=bd,defers:=s.w.heap.size }:Loop) with state:=.exhausted })
    refine ⟨none,_,run_endLoop (P:=P) hl (by simp),?_⟩
    show y.wpIn _ _ _ _ _ _
    have ag2:Ag ⟨none,[{ target:=.collected s.w.heap.size,args:=#[] }]⟩ fn.ntmps E { a with defers:=[{ target:=.collected s.w.heap.size,args:=#[] }]++a.defers }:=⟨ag.size,by rw [ag.defers];rfl,ag.get⟩
    have h4:Holds ⟨_,s'.fz⟩ (L1 x++(pj s.w.heap.size (.deferred (some [])) :: F)):=h3.tail
    refine wpIn_mono (hy x (pj s.w.heap.size (.deferred (some [])) :: F) E.get ⟨_,s'.fz⟩ ok3 h4 ⟨none,[{ target:=.collected s.w.heap.size,args:=#[] }]⟩ _ (ag2.trim hV)) fun e a5 w5 hq=>?_
    obtain ⟨E5,s5,ag5,rfl,hq⟩:=hq
    have fin:∀ v,(results fn a5.tmps).run P s5.w=.ok v s5.w→BL (pj s.w.heap.size (.deferred (some [])) :: F) cM (.returned v) s5.w→LeavesInM Fence.wide 0 P fn a5.tmps (BL F cM) a5.defers .returning s5.w:=fun v hv hR=>by
      rw [ag5.defers]
      obtain ⟨v',L',s6,e6,e7,ok6,hp6,hs6⟩:=hR
      cases e6
      have h6:=pu.1 hs6
      have hd6:s6.w.heap[s.w.heap.size]?=some (.deferred (some [])):=h6.q _ (List.mem_cons_self ..)
      obtain ⟨ok7,h7⟩:=ud ok6 h6 (.deferred none)
      rw [← e7]
      refine ⟨by simp,.inl ⟨s.w.heap.size,_,rfl,run_takeDeferred hd6,?_⟩⟩
      obtain ⟨u,hu⟩:=Bz (P:=P) hres a5.tmps
      have huv:v=u:=by
        have:=hu s5.w
        rw [hv] at this
        cases this;rfl
      subst huv
      exact ⟨_,hu _,_,L',⟨_,s6.fz⟩,rfl,rfl,ok7,hp6,h7.tail⟩
    cases e with
    | normal=>obtain ⟨v,hv,hR⟩:=hq _ a5 ag5;exact fin v hv hR
    | ret=>obtain ⟨v,hv,hR⟩:=hq _ a5 ag5;exact fin v hv hR
    | exit i=>exact hq.elim
    | goto l=>exact hq.elim
    | panic ch=>exact hq.elim
    | outgrown=>exact hq.elim
/-- an iterator that counts down from the captured number -/
def EI (P:Program) (gf:FuncId) (e:TypeId):Prop:=∀ (S G:Type) (body:Int→S→Option S) (HL:S→G→List aE) (n:Int) (s0 r:S) (g0:G) (l:Nat) (rc:Loop) (b:Nat),
  (∀ k st g st',body k st=some st'→YC P l rc #[.int .i64 k] (HL st g) (fun L=>∃ g',L=HL st' g'))→M8 body n s0=some r →
  Ct P gf [yv l,.pointer (some ⟨b,0,none⟩)] [bI (.pointer (some ⟨b,0,none⟩)) e [.int .i64 n],yB l rc (HL s0 g0)] (fun v L=>∃ g',L=[bI (.pointer (some ⟨b,0,none⟩)) e [.int .i64 n],yB l rc (HL r g')])
theorem Hd {S G:Type} {body:Int→S→Option S} {n:Int} {s0 r:S} {gf:FuncId} {e:TypeId} {fg:Func} {id p b:Nat} {g:Operand} {asg bd y:Code} {F:List aE} {cM:Value→List aE→Prop} {HL:S→G→List aE} {V:List (Nat × Value)} {V1:Int→List (Nat × Value)}
    (g0:G) (hl:M8 body n s0=some r) (hit:EI P gf e) (hgf:P.funcs[gf]?=some fg) (hgb:bz P gf=true) (hg:E.ev g=.func (.func gf) #[] #[.pointer (some ⟨b,0,none⟩)]) (hp:Nat.blt p fn.ntmps=true) (hres:xv fn.results.toList=true) (hH:kj H ((bI (.pointer (some ⟨b,0,none⟩)) e [.int .i64 n] :: HL s0 g0)++F)) (hV:agree V E)
    (hA:∀ k st g F',WH P fn.ntmps asg (LR (V1 k) (HL st g) F') (E.put p (.int .i64 k)) (HL st g++F'))
    (hB:∀ k st g st' F' j,body k st=some st'→WH P fn.ntmps bd (Mc (fun L=>∃ g',L=HL st' g') F') ⟨V1 k,j⟩ (HL st g++F'))
    (hy:∀ g F' j,WH P fn.ntmps y (AQ P fn (BL F' cM)) ⟨V,j⟩ (HL r g++F')) :
    OX P fn (.block id (.rangeFunc g #[p] asg bd)) y (BL F cM) E H:=by
  refine He (S:=G) (xi:=bI (.pointer (some ⟨b,0,none⟩)) e [.int .i64 n]) (L0:=HL s0 g0) (L1:=fun g=>HL r g) (lb:=[.pointer (some ⟨b,0,none⟩)]) hg hgf hgb hres hH hV (fun l D fd T hT hN=>?_) hy
  refine hit S G body HL n s0 r g0 l _ b (fun k st g st' hb=>Hk (n:=fn.ntmps) (E0:=E.put p (.int .i64 k)) (V:=V1 k) (L1:=HL st g) rfl rfl rfl ?_ (fun F'=>hA k st g F') (fun F' j=>hB k st g st' F' j hb)) hl
  have ag0:Ag ⟨some l,[]⟩ fn.ntmps E { tmps:=T,defers:=[] }:=⟨hN,rfl,hT⟩
  have h1:=ag0.put (d:=p) (by simpa [Nat.blt_eq] using hp) (.int .i64 k)
  have e:((#[p]:Array Tmp).zip #[Value.int .i64 k]).foldl (fun tmps (x:Tmp × Value)=>tmps.setIfInBounds x.1 x.2) T=T.setIfInBounds p (.int .i64 k):=by simp
  show Ag _ _ _ { tmps:=_,defers:=[] }
  rw [show ((#[p]:Array Tmp).zip #[Value.int .i64 k]).foldl (fun tmps (t,a)=>tmps.setIfInBounds t a) T=T.setIfInBounds p (.int .i64 k) from e]
  exact h1
end
end Gw
