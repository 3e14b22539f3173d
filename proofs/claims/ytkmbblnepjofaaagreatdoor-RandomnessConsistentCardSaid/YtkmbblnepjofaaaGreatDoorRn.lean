/- Plain laws of chapter 24: hyperinvertible matrices, multiples and sums of sharings. -/
import Derived.Test.YtkmbblnepjofaaaGreatDoorRf
set_option linter.unusedVariables false
namespace Pu
open Gw Gl Sp
theorem uo {a n:Nat} (hn:n≤100) (ha:a≤100):eh ((a:Nat):Int) ((n:Nat):Int)=some ((List.range n).map fun i=>a+i):=by
  have e0:max 0 ((n:Nat):Int).toNat=n:=by omega
  unfold eh
  rw [e0,cq (by omega),bS,Nat.sub_zero,fU (fun i=>a+i) (fun k l hk hl=>by
    have hu:qP (((a:Nat):Int)+((k:Nat):Int))=a+k:=by unfold qP;omega
    unfold jX
    rw [bh (by omega) (by omega),bS,bS,hu,aS (by simp only [List.length_cons,List.length_nil];omega) (by simp only [List.length_cons,List.length_nil];omega),bS]),bS]
section
variable {p:Nat} [NeZero p]
theorem yh (hp:fW p) {n at_:Nat} (h1:1≤n) (h7:n≤7) (ha:at_ < p):∃ l,dR p ((List.range n).map fun i=>1+i) at_=some (l,0)∧l.length=n∧Lt p l∧∀ k,k < n→o p (l.getD k 0)*pd (fun j=>o p (1+j)) k (o p (1+k)) n=pd (fun j=>o p (1+j)) k (o p at_) n:=by
  have hlt:=hp.lt
  have hnd:((List.range n).map fun i=>1+i).Nodup:=by
    rw [List.Nodup,List.pairwise_map]
    exact List.Pairwise.imp (fun {a b} h=>by omega) List.nodup_range
  have hg:∀ j,j < n→((List.range n).map fun i=>1+i)[j]?=some (1+j):=fun j hj=>by rw [List.getElem?_map,List.getElem?_range hj];rfl
  unfold dR
  rw [vh hnd (by simp;exact h1) (by simp;exact h7),bS,nT,cF,dW,Nat.sub_zero]
  obtain ⟨l,e,l1,l2,l3⟩:=bw (body:=fun k1 (st:(List Nat))=>fa p ((List.range n).map fun i=>1+i) at_ k1 st) (fun k l=>l.length=k∧Lt p l∧∀ i,i < k→o p (l.getD i 0)*pd (fun j=>o p (1+j)) i (o p (1+i)) n=pd (fun j=>o p (1+j)) i (o p at_) n) (rem:=n) (k:=0) (s:=[]) ⟨rfl,fun i hi=>by simp at hi,fun i hi=>by omega⟩ (fun k l _ hk ⟨l1,l2,l3⟩=>by
    have hkn:k < n:=by omega
    unfold fa cv
    rw [hg k hkn,bS,dW,Nat.sub_zero]
    obtain ⟨r,er,r1,r2,r3,r4⟩:=bw (body:=fun k1 (st:Nat × Nat)=>bj ((List.range n).map fun i=>1+i) ((k:Nat):Int) p at_ (1+k) k1 st.1 st.2) (fun j st=>st.1 < p∧st.2 < p∧o p st.1=pd (fun j=>o p (1+j)) k (o p at_) j∧o p st.2=pd (fun j=>o p (1+j)) k (o p (1+k)) j) (rem:=n) (k:=0) (s:=(1,1)) ⟨by show 1 < p;omega,by show 1 < p;omega,by simp only [pd,ta],by simp only [pd,ta]⟩ (fun j st _ hj ⟨s1,s2,s3,s4⟩=>by
      have hjn:j < n:=by omega
      unfold bj
      rw [hg j hjn,bS]
      by_cases g:j=k
      · rw [qF (by omega),cF];exact ⟨_,rfl,s1,s2,by rw [pd,if_pos g];exact s3,by rw [pd,if_pos g];exact s4⟩
      · unfold fu
        rw [qT (by omega),cT,yd hp ha (by omega),bS,kY hp s1 (Nat.mod_lt _ hp.pos),bS,yd hp (by omega) (by omega),bS,kY hp s2 (Nat.mod_lt _ hp.pos),bS,bS]
        refine ⟨_,rfl,Nat.mod_lt _ hp.pos,Nat.mod_lt _ hp.pos,?_,?_⟩
        · simp only
          rw [kZ,oD,xX (by omega),s3,pd,if_neg g]
        · simp only
          rw [kZ,oD,xX (by omega),s4,pd,if_neg g])
    obtain ⟨x,y⟩:=r
    rw [Nat.zero_add] at r3 r4
    simp only at r1 r2 r3 r4
    have hy:y≠0:=fun h=>by
      refine zb hp (X:=fun j=>o p (1+j)) (i:=k) (y:=o p (1+k)) (n:=n) (fun j hj hjk e=>?_) (by rw [← r4,h,mw])
      have e:o p (1+k)=o p (1+j):=by grind
      have:=qn (p:=p) (by omega) (by omega) e
      omega
    obtain ⟨z,ez,hz,hz2⟩:=y7 hp r1 r2 hy
    rw [er,bS]
    simp only
    rw [bS]
    simp only
    rw [ez,bS,aS (by simp only [List.length_cons,List.length_nil];omega) (by simp only [List.length_cons,List.length_nil];omega),bS]
    refine ⟨_,rfl,by rw [List.length_append,l1];rfl,fun i hi=>?_,fun i hi=>?_⟩
    · rw [List.length_append] at hi
      have hi:i < l.length+1:=hi
      by_cases g:i < l.length
      · rw [dN g];exact l2 i g
      · rw [hQ (by omega)];exact hz
    · by_cases g:i < k
      · rw [dN (by omega)];exact l3 i g
      · have:i=k:=by omega
        subst this
        rw [hQ (by omega),← r3,← r4,hz2])
  rw [Nat.zero_add] at l1 l3
  rw [e,bS]
  exact ⟨l,rfl,l1,l2,l3⟩
theorem Bt (hp:fW p) {r n:Nat} (hr:1≤r) (hr7:r≤7) (h1:1≤n) (h7:n≤7):∃ H,fQ p ((r:Nat):Int) ((n:Nat):Int)=some (H,0)∧H.length=r∧(∀ i,i < r→(H.getD i []).length=n∧Lt p (H.getD i []))∧∀ i,i < r→∀ k,k < n→o p ((H.getD i []).getD k 0)*pd (fun j=>o p (1+j)) k (o p (1+k)) n=pd (fun j=>o p (1+j)) k (o p (n+1+i)) n:=by
  have hlt:=hp.lt
  have hu:qP (((r:Nat):Int)+((n:Nat):Int))=r+n:=by unfold qP;omega
  have e1:((n:Nat):Int)+1=((n+1:Nat):Int):=by omega
  unfold fQ
  rw [dF (by omega),cF,dF (by omega),cF,dF (by omega),cF,dF (by omega),cF,bh (by omega) (by omega),bS,bS,hu,dF (by omega),bS,cF,uo (by omega) (by omega),bS,bh (by omega) (by omega),bS,e1,uo (by omega) (by omega),bS,dW,Nat.sub_zero]
  obtain ⟨o1,e,ho⟩:=dM (body:=fun k1 (st:(List (List Nat)))=>iM p ((List.range n).map fun i=>1+i) ((List.range r).map fun i=>n+1+i) k1 st) (fun k l=>l.length=k∧∀ i,i < k→(l.getD i []).length=n∧Lt p (l.getD i [])∧∀ j,j < n→o p ((l.getD i []).getD j 0)*pd (fun j=>o p (1+j)) j (o p (1+j)) n=pd (fun j=>o p (1+j)) j (o p (n+1+i)) n) (fun _=>False) (rem:=r) (k:=0) (s:=[]) ⟨rfl,fun i hi=>by omega⟩ (fun k l _ hk ⟨l1,l2⟩=>by
    have hkr:k < r:=by omega
    obtain ⟨x,ex,x1,x2,x3⟩:=yh hp h1 h7 (show n+1+k < p by omega)
    have hg:((List.range r).map fun i=>n+1+i)[k]?=some (n+1+k):=by rw [List.getElem?_map,List.getElem?_range hkr];rfl
    unfold iM
    rw [hg,bS,ex,bS]
    simp only
    rw [qF rfl,cF,aS (by simp only [List.length_cons,List.length_nil];omega) (by simp only [List.length_cons,List.length_nil];omega),bS]
    refine ⟨_,rfl,by rw [List.length_append,l1];rfl,fun i hi=>?_⟩
    by_cases g:i < k
    · rw [dN (by omega)];exact l2 i g
    · have:i=k:=by omega
      subst this
      rw [hQ (by omega)];exact ⟨x1,x2,x3⟩)
  rw [e,bS]
  cases o1 with
  | fin b=>exact ho.elim
  | go l =>
    rw [Nat.zero_add] at ho
    rw [oG]
    exact ⟨l,rfl,ho.1,fun i hi=>⟨(ho.2 i hi).1,(ho.2 i hi).2.1⟩,fun i hi=>(ho.2 i hi).2.2⟩
end
section
variable {w:ab} [NeZero w.S.P] {n t:Nat}
theorem Ao {p:Nat} (hp:fW p) {a:List Nat} {k:Nat} (ha:Lt p a) (hk:k < p) {m:Nat} (h1:a.length=m) (hm:m≤1000):dG a a k p=some ((List.range m).map fun j=>k*a.getD j 0 % p):=by
  have hlt:=hp.lt
  unfold dG bW
  rw [h1,cK (by omega) (by omega) (by omega) (by omega),bS,Int.toNat_natCast,Nat.sub_zero]
  obtain ⟨r,e,r1,r2⟩:=bw (body:=fun k1 (st:(List Nat))=>bP a a k p k1 st) (fun q r=>r.length=m∧∀ j,j < q→r.getD j 0=k*a.getD j 0 % p) (rem:=m) (k:=0) (s:=List.replicate m 0)
    ⟨by simp,fun j hj=>by omega⟩ (fun q r _ hq ⟨r1,r2⟩=>by
      unfold bP eY m9
      rw [ix 0 (by omega),bS,bS,kY hp hk (ha.get hp.pos q),bS,bS,bS,ix 0 (by omega),bS,bS]
      refine ⟨_,rfl,by rw [List.length_set];exact r1,fun j hj=>?_⟩
      rw [aX (by omega)]
      by_cases g:q=j
      · rw [if_pos g,g]
      · rw [if_neg g];exact r2 j (by omega))
  rw [Nat.zero_add] at r2
  rw [e,bS,bS,Gm r1 dW fun i hi=>by rw [r2 i hi,eC hi]]
/-- a multiple of a sharing -/
theorem sZ.scale (hp:fW w.S.P) (hn:n≤13) (ht:t≤13) {a:List (List Nat)} {c:Fin w.S.P} (A:sZ w n t a c) {k:Nat} (hk:k < w.S.P):∃ s,mK w.S.P k a=some s∧sZ w n t s (o w.S.P k*c):=by
  have hlt:=hp.lt
  have hw:=fun i (hi:i < n)=>Ao hp (A.r i hi).2 hk (A.r i hi).1 (by omega)
  unfold mK gb bV
  rw [A.l,cK (by omega) (by omega) (by omega) (by omega),bS,Int.toNat_natCast,Nat.sub_zero]
  obtain ⟨r,e,r1,r2⟩:=bw (body:=fun k1 (st:(List (List Nat)))=>bO a a k w.S.P k1 st) (fun q r=>r.length=n∧∀ i,i < q→r.getD i []=(List.range (t+1)).map fun j=>k*(a.getD i []).getD j 0 % w.S.P) (rem:=n) (k:=0) (s:=List.replicate n [])
    ⟨by simp,fun j hj=>by omega⟩ (fun q r _ hq ⟨r1,r2⟩=>by
      unfold bO
      rw [ix [] (by rw [A.l];omega),bS,bS,hw q (by omega),bS,ix [] (by omega),bS,bS]
      refine ⟨_,rfl,by rw [List.length_set];exact r1,fun j hj=>?_⟩
      rw [aX (by omega)]
      by_cases g:q=j
      · rw [if_pos g,g]
      · rw [if_neg g];exact r2 j (by omega))
  rw [Nat.zero_add] at r2
  rw [e,bS,bS,bS]
  have hev:∀ i,i < n→∀ y,dc (P w.S.P (r.getD i [])) y=o w.S.P k*dc (P w.S.P (a.getD i [])) y:=fun i hi y=>by
    rw [r2 i hi,← oz]
    refine mM (fun j=>?_) y
    rw [yv,pY,pY]
    by_cases g:j < t+1
    · rw [eC g,kZ,oD]
    · rw [xY (by rw [dW];omega),xY (by rw [(A.r i hi).1];omega),mw];grind
  refine ⟨r,rfl,r1,fun i hi=>?_,fun i hi hhi j hj hhj=>?_,fun y=>?_⟩
  · rw [r2 i hi]
    refine ⟨dW,fun j hj=>?_⟩
    rw [dW] at hj
    rw [eC hj]
    exact Nat.mod_lt _ hp.pos
  · rw [hev i hi,hev j hj,A.cs i hi hhi j hj hhj]
  · obtain ⟨g,g1,g2,g3⟩:=A.sp y
    refine ⟨uS (o w.S.P k) g,by rw [sq];omega,fun i hi hhi=>?_,fun hy=>?_⟩
    · rw [hev i hi,oz,g2 i hi hhi]
    · rw [oz,g3 hy]
/-- a sum of sharings -/
theorem Co (hp:fW w.S.P) (hn:n≤13) (ht:t≤13) {a:List (List Nat)} {c:Fin w.S.P} (A:sZ w n t a c) {l:List (List (List Nat))} {m:Nat} (hl:l.length=m) {z:Nat→Fin w.S.P} (h:∀ i,i < m→sZ w n t (l.getD i []) (z i)):∃ s,jW w.S.P a l=some s∧sZ w n t s (c+sm m z):=by
  unfold jW
  rw [hl,Nat.sub_zero]
  obtain ⟨r,e,hr⟩:=bw (body:=fun k1 (st:(List (List Nat)))=>j9 w.S.P l k1 st) (fun k r=>sZ w n t r (c+sm k z)) (rem:=m) (k:=0) (s:=a) (by
    have:c+sm 0 z=c:=by rw [sm];grind
    rw [this];exact A) (fun k r _ hk R=>by
    obtain ⟨s,es,S⟩:=sZ.add hp hn ht R (h k (by omega))
    unfold j9
    rw [ix [] (by omega),bS,es,bS]
    refine ⟨s,rfl,?_⟩
    have:c+sm k z+z k=c+sm (k+1) z:=by rw [sm];grind
    rw [← this];exact S)
  rw [Nat.zero_add] at hr
  rw [e,bS]
  exact ⟨r,rfl,hr⟩
/-- the secret of the honest rows -/
theorem Am (s:Sc w n t) (hn:n≤7) (ht:t≤2) {a:List (List Nat)} {c:Fin w.S.P} (A:sZ w n t a c):∃ x,io w a=some (x,true)∧x < w.S.P∧o w.S.P x=c:=by
  have hp:=s.sup
  have hlt:=hp.lt
  have h3:=s.t3
  have hl:=A.l
  have hHl:∀ k,(rG w k).length≤k:=fun k=>GP
  unfold io j7
  obtain ⟨r,er,hr⟩:=jU (step:=fun (st:(List Nat) × (List (List Nat)) × Int)=>en w a st.1 st.2.1 st.2.2)
    (fun st=>∃ k,k≤n∧st=((rG w k).map (·+1),(rG w k).map fun i=>a.getD i [],((k:Nat):Int))) (fun r=>r=((rG w n).map (·+1),(rG w n).map fun i=>a.getD i [])) (fun st=>n - st.2.2.toNat)
    (fun st ⟨k,hk,hst⟩=>by
      subst hst
      simp only
      unfold en
      by_cases g:k < n
      · have hu:qP (((k:Nat):Int)+1)=k+1:=by unfold qP;omega
        have:=hHl k
        rw [s.N,dT (by omega),cT,dT (by omega),bS,cT,bh (by omega) (by omega),bS,zU,bS]
        by_cases gc:(((k:Nat):Int)+1) ∉ w.af
        · rw [dT gc,cT,bS,hu,aS (by simp only [List.length_cons,List.length_nil,List.length_map];omega) (by simp only [List.length_cons,List.length_nil,List.length_map];omega),bS,aT [] (by omega) (by omega),bS,Int.toNat_natCast,aS (by simp only [List.length_cons,List.length_nil,List.length_map];omega) (by simp only [List.length_cons,List.length_nil,List.length_map];omega),bS]
          refine ⟨_,rfl,⟨k+1,g,?_⟩,by simp only;omega⟩
          rw [wL,if_pos gc,List.map_append,List.map_append];rfl
        · rw [dF gc,cF]
          refine ⟨_,rfl,⟨k+1,g,?_⟩,by simp only;omega⟩
          rw [wL,if_neg gc,List.append_nil];rfl
      · have:k=n:=by omega
        subst this
        rw [s.N,dF (by omega),cF,bS,cF]
        exact ⟨_,rfl,rfl⟩) (s:=([],[],((0:Nat):Int))) ⟨0,by omega,rfl⟩ (by simp only;omega)
  subst hr
  rw [er,bS]
  simp only
  rw [bS]
  simp only
  have hmem:=fun i (hi:i < (rG w n).length)=>EL hi
  have hcnt:=EK s
  have hHn:=hHl n
  have hx:∀ i,i < (rG w n).length→((rG w n).map (·+1)).getD i 0=(rG w n).getD i 0+1:=fun i hi=>by
    rw [List.getD_eq_getElem?_getD,List.getElem?_map,ix 0 hi];rfl
  have hr:∀ i,i < (rG w n).length→((rG w n).map fun i=>a.getD i []).getD i []=a.getD ((rG w n).getD i 0) []:=fun i hi=>by
    rw [List.getD_eq_getElem?_getD,List.getElem?_map,ix 0 hi];rfl
  obtain ⟨S,eS,s1,s2,s3,s4⟩:=xT hp (xs:=(rG w n).map (·+1)) (rows:=(rG w n).map fun i=>a.getD i []) (t:=t) (N:=(rG w n).length)
    ⟨by simp,by simp,by omega,by omega,ht,fun i hi=>by rw [hx i hi];have:=(hmem i hi).1;omega,fun i j hi hj h=>by rw [hx i hi,hx j hj];have:=GQ hi hj h;omega,
      fun i hi=>by rw [hr i hi];exact A.r _ (hmem i hi).1,fun i hi j hj=>by
        rw [hr i hi,hr j hj,hx i hi,hx j hj]
        exact A.cs _ (hmem i hi).1 (.inl (hmem i hi).2) _ (hmem j hj).1 (.inl (hmem j hj).2),fun y=>by
        obtain ⟨g,g1,g2,_⟩:=A.sp y
        exact ⟨g,g1,fun i hi=>by rw [hr i hi,hx i hi];exact g2 _ (hmem i hi).1 (.inl (hmem i hi).2)⟩⟩
  rw [s.T,eS,bS]
  simp only
  rw [qF rfl,cF,s1,eF (by omega),cF,ix [] (by omega),bS,s2,eF (by omega),cF,ix 0 (by omega),bS]
  obtain ⟨g,g1,g2,g3⟩:=A.sp 0
  exact ⟨_,rfl,s3,by rw [s4 g g1 (fun i hi=>by rw [hr i hi,hx i hi];exact g2 _ (hmem i hi).1 (.inl (hmem i hi).2)),g3 rfl]⟩
end
end Pu

/- Plain laws of chapter 24: random sharings, and that they are consistent. -/
set_option linter.unusedVariables false
namespace Pu
open Gw Gl Sp
theorem JO:kC=some true:=by decide +kernel
theorem Hj {body:Nat→Unit→Option (Out Unit Bool)} {a n:Nat} (h:∀ k,a≤k→k < a+n→body k ()=some (.go ())):nq body n a ()=some (.go ()):=by
  obtain ⟨o,e,ho⟩:=dM (body:=body) (fun k _=>True) (fun b=>False) (rem:=n) (k:=a) (s:=()) trivial (fun k s h1 hk hI=>⟨_,h k h1 hk,trivial⟩)
  cases o with
  | fin b=>exact ho.elim
  | go u=>exact e
theorem B9 {body:Nat→Unit→Option (Out Unit Bool)} {n:Nat} (G:Nat→Prop) (h:∀ k,k < n→body k ()=some (.fin false) ∨ (body k ()=some (.go ())∧G k)):nq body n 0 ()=some (.fin false) ∨ (nq body n 0 ()=some (.go ())∧∀ k,k < n→G k):=by
  obtain ⟨o,e,ho⟩:=dM (body:=body) (fun k _=>∀ j,j < k→G j) (fun b=>b=false) (rem:=n) (k:=0) (s:=()) (fun j hj=>by omega) (fun k s _ hk hI=>by
    rcases h k (by omega) with e | ⟨e,hg⟩
    · exact ⟨_,e,rfl⟩
    · refine ⟨_,e,fun j hj=>?_⟩
      by_cases g:j=k
      · subst g;exact hg
      · exact hI j (by omega))
  cases o with
  | fin b=>exact .inl (by rw [e,show b=false from ho])
  | go u=>exact .inr ⟨e,fun k hk=>ho k (by omega)⟩
theorem divN {a b:Nat} (hb:0 < b) (ha:a < 9223372036854775808):ub ((a:Nat):Int) ((b:Nat):Int)=some ((a / b:Nat):Int):=by
  unfold ub
  rw [if_neg (by omega)]
  have h:((a:Nat):Int).tdiv ((b:Nat):Int)=((a / b:Nat):Int):=rfl
  rw [h]
  have:=Nat.div_le_self a b
  clear h
  generalize a / b=q at *
  exact ow (by omega) (by omega)
/-- a row of a result -/
def IK (res:bm) (i d k:Nat):List Nat:=((res.Rows.getD i []).getD d []).getD k []
/-- a result's form: c rows of each dealer -/
structure Fm (p n t c:Nat) (res:bm):Prop where
  rl:res.Rows.length=n
  row:∀ i,i < n→(res.Rows.getD i []).length=n
  many:∀ i,i < n→∀ d,d < n→((res.Rows.getD i []).getD d []).length=c
  ww:∀ i,i < n→∀ d,d < n→∀ k,k < c→(IK res i d k).length=t+1∧Lt p (IK res i d k)
theorem Ju.fm {w:ab} {tapes:List (List Nat)} {q:List (List (List Nat))} {n t c:Nat} {res:bm} (r:Ju w tapes q n t res) (hc:∀ d,d < n→(q.getD d []).length=c):Fm w.S.P n t c res :=
  ⟨r.rl,r.row,fun i hi d hd=>by rw [r.many i hi d hd,hc d hd],fun i hi d hd k hk=>r.ww i hi d hd k (by rw [hc d hd];exact hk)⟩
/-- a sharing -/
def shr (res:bm) (n d k:Nat):List (List Nat):=(List.range n).map fun i=>IK res i d k
section
variable {p n t c:Nat} {res:bm}
theorem zm {d k:Nat}:(shr res n d k).length=n:=dW
theorem qO {i d k:Nat} (hi:i < n):(shr res n d k).getD i []=IK res i d k:=eC hi
theorem Fg (F:Fm p n t c res) (hn:n≤100) (hc:c≤10) {d k:Nat} (hd:d < n) (hk:k < c):lO res ((d+1:Nat):Int) ((k:Nat):Int)=some (shr res n d k):=by
  have e0:((d+1:Nat):Int) - 1=((d:Nat):Int):=by omega
  unfold lO
  rw [Nat.sub_zero,F.rl,fU (fun i=>IK res i d k) (fun i l hi hl=>by
    unfold oV
    rw [ix [] (by rw [F.rl];exact hi),bS,cy (by omega) (by omega),bS,e0,aT [] (by omega) (by rw [F.row i hi];omega),bS,Int.toNat_natCast,aT [] (by omega) (by rw [F.many i hi d hd];omega),bS,Int.toNat_natCast,aS (by simp only [List.length_cons,List.length_nil];omega) (by simp only [List.length_cons,List.length_nil];omega),bS]
    rfl),bS]
  rfl
end
theorem yn.congr {n:Nat} {T:List ay} {tp:Nat→List Nat} {ps ps':Nat→Nat} (h:yn n T tp ps) (e:∀ i,i < n→ps i=ps' i):yn n T tp ps' :=
  ⟨h.len,fun i hi=>by rw [h.at_ i hi,e i hi],fun i hi=>by rw [← e i hi];exact h.le i hi⟩
/-- sharings stand -/
theorem Com.std {w:ab} [NeZero w.S.P] {q:List (List (List Nat))} {n t c:Nat} {res:bm} (s:Sc w n t) (C:Com w q n t res) (F:Fm w.S.P n t c res) (hc:∀ d,d < n→(q.getD d []).length=c) {d k:Nat} (hd:d < n) (hk:k < c):∃ z,sZ w n t (shr res n d k) z:=by
  have hp:=s.sup
  have hlt:=hp.lt
  have h13:=s.n13
  have h3:=s.t3
  have hk':k < (q.getD d []).length:=by rw [hc d hd];exact hk
  obtain ⟨f0,a1,a2,a3⟩:=C.sp d hd k hk' 0
  refine ⟨dc (P w.S.P f0) 0,zm,fun i hi=>by rw [qO hi];exact F.ww i hi d hd k hk,fun i hi hhi j hj hhj=>?_,fun y=>?_⟩
  · rw [qO hi,qO hj]
    obtain ⟨b1,b2⟩:=F.ww i hi d hd k hk
    obtain ⟨c1,c2⟩:=F.ww j hj d hd k hk
    have e1:=(iR hp b2 (show j+1 < w.S.P by omega) (by omega)).2.2
    have e2:=(iR hp c2 (show i+1 < w.S.P by omega) (by omega)).2.2
    rw [← e1,← e2]
    exact congrArg _ (C.cs d hd k hk' i hi hhi j hj hhj)
  · by_cases g:y=0
    · subst g
      exact ⟨P w.S.P f0,by rw [ra];exact a2,fun i hi hh=>by rw [qO hi];exact a3 i hi hh,fun _=>rfl⟩
    · obtain ⟨f,b1,b2,b3⟩:=C.sp d hd k hk' y
      exact ⟨P w.S.P f,by rw [ra];exact b2,fun i hi hh=>by rw [qO hi];exact b3 i hi hh,fun h=>absurd h g⟩
/-- the number of batches -/
theorem xB {s:aH} {n t m:Nat} (hN:s.N=(n:Int)) (hT:s.T=(t:Int)) (ht:t < n) (hn:n≤100) (hm:m≤100):gA s ((m:Nat):Int)=some (((m+(n - t - 1)) / (n - t):Nat):Int):=by
  have e1:((m:Nat):Int)+((n:Nat):Int) - ((t:Nat):Int) - 1=((m+(n - t - 1):Nat):Int):=by omega
  have e2:((n:Nat):Int) - ((t:Nat):Int)=((n - t:Nat):Int):=by omega
  unfold gA
  rw [hN,hT,bh (by omega) (by omega),bS,cy (by omega) (by omega),bS,cy (by omega) (by omega),bS,cy (by omega) (by omega),bS,e1,e2,divN (by omega) (by omega),bS]
/-- the first rows that a dealer takes -/
def B6 (l:List Nat) (a t k:Nat):List Nat:=(l.drop (a+k*(t+1))).take (t+1)
theorem Hg {p:Nat} (hp:0 < p) {l:List Nat} (hl:Lt p l) {a t k b:Nat} (h:a+b*(t+1)≤l.length) (hk:k < b):(B6 l a t k).length=t+1∧Lt p (B6 l a t k):=by
  unfold B6
  have:k*(t+1)+(t+1)≤b*(t+1):=by rw [← Nat.succ_mul];exact Nat.mul_le_mul_right (t+1) hk
  refine ⟨by rw [List.length_take,List.length_drop];omega,fun i hi=>?_⟩
  rw [List.getD_eq_getElem?_getD,List.getElem?_take]
  split
  · rw [List.getElem?_drop,← List.getD_eq_getElem?_getD];exact hl.get hp _
  · exact hp
def E7 (n t b:Nat) (tp:Nat→List Nat) (ps:Nat→Nat):List (List (List Nat)):=(List.range n).map fun d=>(List.range b).map (B6 (tp d) (ps d) t)
theorem Ck {net:ap} {n t b:Nat} (s:Sc net.zw n t) (ht:t≤2) (hb:b≤10) (hn:n≤7) {tp:Nat→List Nat} {ps:Nat→Nat} (hts:yn n net.am tp ps) (h:∀ d,d < n→ps d+b*(t+1)≤(tp d).length) :
    ∃ T,dU (fun k1 (st:(List ay) × (List (List (List Nat))))=>cx net net.zw ((b:Nat):Int) k1 st.1 st.2) n 0 (net.am,List.replicate n [])=some (T,E7 n t b tp ps)∧yn n T tp (fun i=>ps i+b*(t+1)):=by
  have eb:max 0 ((b:Nat):Int).toNat=b:=by omega
  have et:((t:Nat):Int)+1=((t+1:Nat):Int):=by omega
  obtain ⟨r,er,q1,q2,q3,q4,q5⟩:=bw (body:=fun k1 (st:(List ay) × (List (List (List Nat))))=>cx net net.zw ((b:Nat):Int) k1 st.1 st.2)
    (fun k st=>st.1.length=n∧(∀ j,j < n→st.1.getD j ⟨[],0⟩=if j < k then ⟨tp j,((ps j+b*(t+1):Nat):Int)⟩ else ⟨tp j,((ps j:Nat):Int)⟩)∧st.2.length=n∧(∀ j,j < k→st.2.getD j []=(List.range b).map (B6 (tp j) (ps j) t))∧∀ j,k≤j→j < n→st.2.getD j []=[]) (rem:=n) (k:=0) (s:=(net.am,List.replicate n []))
    ⟨hts.len,fun j hj=>by rw [if_neg (by omega)];exact hts.at_ j hj,by simp,fun j hj=>by omega,fun j _ hj=>by simp [List.getD_eq_getElem?_getD,hj]⟩ (fun d st _ hk ⟨q1,q2,q3,q4,q5⟩=>by
      obtain ⟨T,l⟩:=st
      simp only at q1 q2 q3 q4 q5
      have hd:d < n:=by omega
      have hT0:=q2 d hd
      rw [if_neg (by omega)] at hT0
      have e1:((d:Nat):Int)+1 - 1=((d:Nat):Int):=by omega
      have hbt:((b:Nat):Int)*((t+1:Nat):Int)=((b*(t+1):Nat):Int):=by rw [Int.natCast_mul]
      have hb30:b*(t+1)≤30:=Nat.le_trans (Nat.mul_le_mul hb (show t+1≤3 by omega)) (by omega)
      have hh:=h d hd
      have htl:=(hts.le d hd).2
      unfold cx fb
      rw [bh (by omega) (by omega),bS]
      simp only
      rw [cy (by omega) (by omega),bS,e1,aT ⟨[],0⟩ (by omega) (by omega),bS,bS,Int.toNat_natCast,s.T,bh (by omega) (by omega),bS,et,eK (by omega) (by omega),bS,hbt,ix ⟨[],0⟩ (by omega),bS,hT0,zr hh htl,bS]
      simp only
      rw [bS,eb,cq (by omega),bS,Nat.sub_zero]
      obtain ⟨r,er,r1,r2,r3⟩:=bw (body:=fun k2 (st:(List (List (List Nat))))=>fL d ((t+1:Nat):Int) (((tp d).drop (ps d)).take (b*(t+1)),0,((ps d+b*(t+1):Nat):Int)) k2 st)
        (fun k r=>r.length=n∧r.getD d []=(List.range k).map (B6 (tp d) (ps d) t)∧∀ j,j≠d→r.getD j []=l.getD j []) (rem:=b) (k:=0) (s:=l) ⟨q3,q5 d (Nat.le_refl d) hd,fun _ _=>rfl⟩ (fun k r _ hk ⟨r1,r2,r3⟩=>by
          have hkb:k < b:=by omega
          have c1:k*(t+1)+(t+1)≤b*(t+1):=by rw [← Nat.succ_mul];exact Nat.mul_le_mul_right (t+1) hkb
          have c2:((k:Nat):Int)*((t+1:Nat):Int)=((k*(t+1):Nat):Int):=by rw [Int.natCast_mul]
          have c3:(((k:Nat):Int)+1)*((t+1:Nat):Int)=((k*(t+1)+(t+1):Nat):Int):=by rw [← Nat.succ_mul,Int.natCast_mul];rfl
          have hcut:(((tp d).drop (ps d)).take (b*(t+1)) |>.drop (k*(t+1))).take (k*(t+1)+(t+1) - k*(t+1))=B6 (tp d) (ps d) t k:=by
            unfold B6
            rw [List.drop_take,List.drop_drop,List.take_take]
            congr 1
            omega
          have hwl:(((tp d).drop (ps d)).take (b*(t+1))).length=b*(t+1):=by rw [List.length_take,List.length_drop];omega
          unfold fL
          simp only
          generalize k*(t+1)=kt at *
          rw [ix [] (by omega),bS,eK (by omega) (by omega),bS,bh (by omega) (by omega),bS,eK (by omega) (by omega),bS,c2,c3,iy (by omega) (by omega) (by rw [hwl];omega),bS,Int.toNat_natCast,Int.toNat_natCast,hcut,aS (by rw [r2,dW];simp only [List.length_cons,List.length_nil];omega) (by rw [r2,dW];simp only [List.length_cons,List.length_nil];omega),bS,bS]
          refine ⟨_,rfl,by rw [List.length_set];exact r1,?_,fun j hj=>?_⟩
          · rw [aX (by omega),if_pos rfl,r2,List.range_succ,List.map_append];rfl
          · rw [aX (by omega),if_neg (fun e=>hj e.symm)];exact r3 j hj)
      rw [Nat.zero_add] at r2
      rw [er,bS]
      refine ⟨_,rfl,by simp only [List.length_set];exact q1,fun j hj=>?_,r1,fun j hj=>?_,fun j hj hjn=>?_⟩
      · simp only
        rw [aX (by omega)]
        by_cases g:d=j
        · rw [if_pos g,if_pos (by omega),← g]
        · rw [if_neg g,q2 j hj]
          by_cases g2:j < d
          · rw [if_pos g2,if_pos (by omega)]
          · rw [if_neg g2,if_neg (by omega)]
      · by_cases g:j=d
        · subst g;exact r2
        · rw [r3 j g];exact q4 j (by omega)
      · rw [r3 j (by omega)];exact q5 j (by omega) hjn)
  obtain ⟨T,l⟩:=r
  simp only at q1 q2 q3 q4
  rw [Nat.zero_add] at q2 q4
  have hl:l=E7 n t b tp ps:=by
    apply List.ext_getElem?
    intro i
    unfold E7
    by_cases g:i < n
    · rw [ix [] (by omega),q4 i g,List.getElem?_map,List.getElem?_range g];rfl
    · rw [List.getElem?_eq_none (by omega),List.getElem?_eq_none (by simp;omega)]
  rw [er,hl]
  refine ⟨T,rfl,q1,fun j hj=>by rw [q2 j hj,if_pos hj],fun j hj=>⟨h j hj,(hts.le j hj).2⟩⟩
theorem He {p n t b:Nat} (hp:0 < p) (ht:t=1 ∨ t=2) (hb:b≤10) {T:List ay} {tp:Nat→List Nat} {ps:Nat→Nat} (hts:yn n T tp ps) (h:∀ d,d < n→ps d+b*(t+1+t*(t+1) / 2)≤(tp d).length) (hlt:∀ d,d < n→Lt p (tp d)) :
    Qs p n t (E7 n t b tp ps) (rem n tp fun i=>ps i+b*(t+1))∧(∀ d,d < n→((E7 n t b tp ps).getD d []).length=b)∧∀ d,d < n→ps d+b*(t+1)≤(tp d).length:=by
  have hq:∀ d,d < n→(E7 n t b tp ps).getD d []=(List.range b).map (B6 (tp d) (ps d) t):=fun d hd=>eC hd
  have h1:∀ d,d < n→ps d+b*(t+1)≤(tp d).length:=fun d hd=>by
    have:=h d hd
    have:b*(t+1)≤b*(t+1+t*(t+1) / 2):=Nat.mul_le_mul_left b (Nat.le_add_right ..)
    omega
  refine ⟨⟨dW,by simp [rem],fun d hd=>?_,fun d hd=>?_,fun d hd k hk=>?_⟩,fun d hd=>by rw [hq d hd,dW],h1⟩
  · rw [hq d hd,dW,tK hd,List.length_drop]
    have:=h d hd
    rcases ht with rfl | rfl
    · exact ⟨hb,by have:ps d+b*3≤(tp d).length:=this;show b*1≤_;omega⟩
    · exact ⟨hb,by have:ps d+b*6≤(tp d).length:=this;show b*3≤_;omega⟩
  · rw [tK hd,List.length_drop]
    refine ⟨by have:=(hts.le d hd).2;omega,fun i hi=>?_⟩
    rw [List.getD_eq_getElem?_getD,List.getElem?_drop,← List.getD_eq_getElem?_getD]
    exact (hlt d hd).get hp _
  · rw [hq d hd,dW] at hk
    rw [hq d hd,eC hk]
    exact Hg hp (hlt d hd) (h1 d hd) hk
/-- one number -/
theorem C4 {w:ab} [NeZero w.S.P] {n t c:Nat} {res:bm} {x7:Int × (List (List al)) × (List ay)} (s:Sc w n t) (F:Fm w.S.P n t c res) (hn:n≤7) (hc:c≤10) {sec:Nat→Nat→Fin w.S.P} (hs:∀ d,d < n→∀ k,k < c→sZ w n t (shr res n d k) (sec d k)) {H:List (List Nat)} {e:Int} {g:Nat} (hH:H.length=g) (hr:∀ i,i < g→(H.getD i []).length=n∧Lt w.S.P (H.getD i []))
    {k i:Nat} (hk:k < c) (hi:i < g) {l:List (List (List Nat))} (hl:l.length≤1000):∃ a,dL w (res,x7) (H,e) k i l=some (l++[a])∧sZ w n t a (sm n fun d=>o w.S.P ((H.getD i []).getD d 0)*sec d k):=by
  have hp:=s.sup
  have h4:=s.n4
  have h3:=s.t3
  obtain ⟨r1,r2⟩:=hr i hi
  unfold dL
  simp only
  rw [ix [] (by omega),bS,r1,Nat.sub_zero]
  generalize H.getD i []=h at *
  obtain ⟨L,eL,l1,l2⟩:=bw (body:=fun k5 (st:(List (List (List Nat))))=>fN w (res,x7) k h k5 st) (fun q L=>L.length=q∧∀ d,d < q→sZ w n t (L.getD d []) (o w.S.P (h.getD d 0)*sec d k)) (rem:=n) (k:=0) (s:=[]) ⟨rfl,fun d hd=>by omega⟩ (fun q L _ hq ⟨l1,l2⟩=>by
    have hqn:q < n:=by omega
    have e1:((q:Nat):Int)+1=((q+1:Nat):Int):=by omega
    obtain ⟨a,ea,A⟩:=sZ.scale hp (by omega) (by omega) (hs q hqn k hk) (r2.get hp.pos q)
    unfold fN
    simp only
    rw [ix 0 (by omega),bS,bh (by omega) (by omega),bS,e1,Fg F (by omega) hc hqn hk,bS,ea,bS,aS (by simp only [List.length_cons,List.length_nil];omega) (by simp only [List.length_cons,List.length_nil];omega),bS]
    refine ⟨_,rfl,by rw [List.length_append,l1];rfl,fun d hd=>?_⟩
    by_cases gg:d < q
    · rw [dN (by omega)];exact l2 d gg
    · have:d=q:=by omega
      subst this
      rw [hQ (by omega)];exact A)
  rw [Nat.zero_add] at l1 l2
  obtain ⟨m,rfl⟩:∃ m,n=m+1:=⟨n - 1,by omega⟩
  have hcut:(L.drop (1:Int).toNat).take (((L.length:Nat):Int).toNat - (1:Int).toNat)=L.drop 1:=by
    rw [Int.toNat_natCast]
    show (L.drop 1).take (L.length - 1)=_
    rw [List.take_of_length_le (by rw [List.length_drop];exact Nat.le_refl _)]
  obtain ⟨z,ez,Z⟩:=Co hp (by omega) (by omega) (l2 0 (by omega)) (l:=L.drop 1) (m:=m) (by rw [List.length_drop,l1];rfl) (z:=fun d=>o w.S.P (h.getD (d+1) 0)*sec (d+1) k) (fun d hd=>by
    have:(L.drop 1).getD d []=L.getD (d+1) []:=by rw [List.getD_eq_getElem?_getD,List.getElem?_drop,← List.getD_eq_getElem?_getD,Nat.add_comm]
    rw [this];exact l2 (d+1) (by omega))
  rw [eL,bS,ix [] (by omega),bS,iy (by omega) (by omega) (by omega),bS,hcut,ez,bS,aS (by simp only [List.length_cons,List.length_nil];omega) (by simp only [List.length_cons,List.length_nil];omega),bS]
  exact ⟨z,rfl,by rw [uz];exact Z⟩
theorem EW {t:Nat} {f r:List Nat} (ht:t=1 ∨ t=2) (hf:f.length=t+1) (hr:r.length=t*(t+1) / 2):(mx f r).getD 0 []=f:=by
  rcases ht with rfl | rfl
  · match f,hf with
    | [a,b],_=>match r,hr with
      | [c],_=>unfold mx;rw [Ca];rfl
  · match f,hf with
    | [a,b,c],_=>match r,hr with
      | [d,e,g],_=>unfold mx;rw [Cb];rfl
/-- random sharings -/
theorem E6 {net:ap} {n t m B:Nat} [NeZero net.zw.S.P] (s:Sc net.zw n t) (ht:t=1 ∨ t=2) (hn:n≤7) (hm:0 < m) (hm7:m≤7) {tp:Nat→List Nat} {ps:Nat→Nat} (hts:yn n net.am tp ps) (h:∀ d,d < n→ps d+(m+(n - t - 1)) / (n - t)*(t+1+t*(t+1) / 2)≤(tp d).length) (hlt:∀ d,d < n→Lt net.zw.S.P (tp d)) (hv:VB n B net.au) (hB:B≤300) (hr:0≤net.ah∧net.ah≤700) :
    ∃ (out:List (List (List Nat))) (views:List (List al)) (T:List ay) (H:List (List Nat)) (sec:Nat→Nat→Fin net.zw.S.P),cw net ((m:Nat):Int)=some (out,net.ah+7,views,T)∧out.length=m∧(∀ i,i < m→sZ net.zw n t (out.getD i []) (sm n fun d=>o net.zw.S.P ((H.getD (i % (n - t)) []).getD d 0)*sec d (i / (n - t))))∧VB n (B+7*n) views∧fQ net.zw.S.P ((n - t:Nat):Int) ((n:Nat):Int)=some (H,0)∧(net.zw.aa=[]→∀ d,d < n→∀ k,k < (m+(n - t - 1)) / (n - t)→sec d k=o net.zw.S.P ((tp d).getD (ps d+k*(t+1)) 0)):=by
  obtain ⟨w,round,v0,T0⟩:=net
  simp only at *
  have hp:=s.sup
  have hlt0:=hp.lt
  have h3:=s.t3
  have h4:=s.n4
  have hg:n - t=3 ∨ n - t=4 ∨ n - t=5 ∨ n - t=6:=by omega
  have e2:((n:Nat):Int) - ((t:Nat):Int)=((n - t:Nat):Int):=by omega
  have eb:=xB (s:=w.S) s.N s.T (show t < n by omega) (show n≤100 by omega) (show m≤100 by omega)
  have hb1:(m+(n - t - 1)) / (n - t)≤3:=by rcases hg with g | g | g | g <;> rw [g] <;> omega
  have hb2:m≤(m+(n - t - 1)) / (n - t)*(n - t):=by rcases hg with g | g | g | g <;> rw [g] <;> omega
  generalize (m+(n - t - 1)) / (n - t)=b at *
  obtain ⟨Q,hql,hd0⟩:=He hp.pos ht (by omega) hts h hlt
  obtain ⟨T1,eT1,tT1⟩:=Ck (net:=⟨w,round,v0,T0⟩) s (by omega) (by omega) hn hts hd0
  obtain ⟨res,v1,T2,eS,tT2,R,hv1,C,_⟩:=Ch (net:=⟨w,round,v0,T1⟩) s ht hn Q tT1 hv (by omega) ⟨hr.1,by show round≤800;omega⟩
  simp only at eS R hv1 C eT1
  have F:=Ju.fm R hql
  obtain ⟨H,eH,H1,H2,_⟩:=Bt hp (r:=n - t) (n:=n) (by omega) (by omega) (by omega) hn
  have hex:∀ d k,∃ z,d < n→k < b→sZ w n t (shr res n d k) z∧(w.aa=[]→z=o w.S.P ((tp d).getD (ps d+k*(t+1)) 0)):=fun d k=>by
    by_cases g:d < n∧k < b
    · by_cases hdv:w.aa=[]
      · have hk':k < ((E7 n t b tp ps).getD d []).length:=by rw [hql d g.1];exact g.2
        have hM:=tR hp.pos ht Q g.1 hk'
        have A:=sZ.rows s (by omega) hM.2.1 hM.2.2 (a:=shr res n d k) zm (fun i hi=>by
          rw [qO hi]
          exact R.ok d g.1 (.inr hdv) i hi (.inr hdv) k hk')
        have hq:((E7 n t b tp ps).getD d []).getD k []=B6 (tp d) (ps d) t k:=by
          unfold E7;rw [eC g.1,eC g.2]
        rw [xx hk',EW ht (Q.w d g.1 k hk').1 (vT (Q.many d g.1).2 hk'),hq] at A
        refine ⟨_,fun _ _=>⟨A,fun _=>?_⟩⟩
        unfold B6
        rw [List.getD_eq_getElem?_getD,List.getElem?_take_of_lt (by omega),List.getElem?_drop,← List.getD_eq_getElem?_getD,Nat.add_zero]
      · obtain ⟨z,Z⟩:=Com.std s C F hql g.1 g.2
        exact ⟨z,fun _ _=>⟨Z,fun h=>absurd h hdv⟩⟩
    · exact ⟨0,fun h1 h2=>absurd ⟨h1,h2⟩ g⟩
  have hsec:=fun d k=>Classical.choose_spec (hex d k)
  generalize hse:(fun d k=>Classical.choose (hex d k))=sec at *
  have hdv:w.aa=[]→∀ d,d < n→∀ k,k < b→sec d k=o w.S.P ((tp d).getD (ps d+k*(t+1)) 0):=fun h d hd k hk=>by
    rw [← hse];exact (hsec d k hd hk).2 h
  have hsec:∀ d,d < n→∀ k,k < b→sZ w n t (shr res n d k) (sec d k):=fun d hd k hk=>by
    rw [← hse];exact (hsec d k hd hk).1
  have e1:max 0 ((b:Nat):Int).toNat=b:=by omega
  unfold cw bI
  rw [eF (by omega),cF,bS,eb,bS,s.N,cK (by omega) (by omega) (by omega) (by omega),bS,Int.toNat_natCast,List.length_replicate,Nat.sub_zero,eT1,bS]
  simp only
  rw [eS,bS,s.T,cy (by omega) (by omega),bS,e2,eH,bS,e1,cq (by omega),bS,Nat.sub_zero]
  have hbg:b*(n - t)≤18:=Nat.le_trans (Nat.mul_le_mul hb1 (show n - t≤6 by omega)) (by omega)
  obtain ⟨L,eL,l1,l2⟩:=bw (body:=fun k3 (st:(List (List (List Nat))))=>fM w (res,round+7,v1,T2) (H,0) k3 st) (fun k L=>L.length=k*(n - t)∧∀ i,i < L.length→sZ w n t (L.getD i []) (sm n fun d=>o w.S.P ((H.getD (i % (n - t)) []).getD d 0)*sec d (i / (n - t)))) (rem:=b) (k:=0) (s:=[]) ⟨by simp,fun i hi=>by simp at hi⟩ (fun k L _ hk ⟨l1,l2⟩=>by
    have hkb:k < b:=by omega
    have hkg:k*(n - t)+(n - t)≤b*(n - t):=by rw [← Nat.succ_mul];exact Nat.mul_le_mul_right (n - t) hkb
    unfold fM
    simp only
    rw [H1,Nat.sub_zero]
    obtain ⟨M,eM,m1,m2⟩:=bw (body:=fun k4 (st:(List (List (List Nat))))=>dL w (res,round+7,v1,T2) (H,0) k k4 st) (fun q M=>M.length=k*(n - t)+q∧∀ i,i < M.length→sZ w n t (M.getD i []) (sm n fun d=>o w.S.P ((H.getD (i % (n - t)) []).getD d 0)*sec d (i / (n - t)))) (rem:=n - t) (k:=0) (s:=L) ⟨l1,l2⟩ (fun q M _ hq ⟨m1,m2⟩=>by
      obtain ⟨a,ea,A⟩:=C4 (x7:=(round+7,v1,T2)) (e:=0) s F hn (by omega) hsec H1 H2 hkb (show q < n - t by omega) (l:=M) (by omega)
      refine ⟨_,ea,by rw [List.length_append,m1];rfl,fun i hi=>?_⟩
      rw [List.length_append] at hi
      have hi:i < M.length+1:=hi
      by_cases g:i < M.length
      · rw [dN g];exact m2 i g
      · have hqg:q < n - t:=by omega
        have hi':i=k*(n - t)+q:=by omega
        have f1:i / (n - t)=k:=by rw [hi',Nat.mul_comm,Nat.mul_add_div (by omega),Nat.div_eq_of_lt hqg,Nat.add_zero]
        have f2:i % (n - t)=q:=by rw [hi',Nat.mul_comm,Nat.mul_add_mod,Nat.mod_eq_of_lt hqg]
        rw [hQ (by omega),f1,f2];exact A)
    rw [eM,bS]
    exact ⟨M,rfl,by rw [m1,Nat.zero_add,Nat.succ_mul],m2⟩)
  rw [Nat.zero_add] at l1
  rw [eL,bS,iy (by omega) (by omega) (by rw [l1];omega),bS]
  refine ⟨_,v1,T2,H,sec,rfl,?_,fun i hi=>?_,hv1,rfl,hdv⟩
  · rw [Int.toNat_natCast,List.length_take,List.length_drop,l1]
    show min (m - 0) (b*(n - t) - 0)=m
    omega
  · have:((L.drop (0:Int).toNat).take (((m:Nat):Int).toNat - (0:Int).toNat)).getD i []=L.getD i []:=by
      rw [Int.toNat_natCast]
      show ((L.drop 0).take (m - 0)).getD i []=_
      rw [List.drop_zero,List.getD_eq_getElem?_getD,List.getElem?_take_of_lt (by omega),← List.getD_eq_getElem?_getD]
    rw [this]
    exact l2 i (by omega)
theorem vt {s:aH} {n t m:Nat} (hN:s.N=(n:Int)) (hT:s.T=(t:Int)) (hg:n - t=3 ∨ n - t=4 ∨ n - t=5 ∨ n - t=6) (hn:n≤7) (hm:m≤7):gP s ((m:Nat):Int)=some (((m+(n - t - 1)) / (n - t):Nat):Int):=by
  have e2:((n:Nat):Int) - ((t:Nat):Int)=((n - t:Nat):Int):=by omega
  unfold gP
  obtain ⟨r,e,h⟩:=jU (step:=fun (st:Int)=>iE s ((m:Nat):Int) st) (fun st=>∃ k,st=((k:Nat):Int)∧k*(n - t) < m+(n - t)) (fun r=>r=(((m+(n - t - 1)) / (n - t):Nat):Int)) (fun st=>20 - st.toNat) (fun st ⟨k,hst,hk⟩=>by
    subst hst
    have c1:((k:Nat):Int)*((n - t:Nat):Int)=((k*(n - t):Nat):Int):=by rw [Int.natCast_mul]
    have hk20:k < 20:=by rcases hg with g | g | g | g <;> rw [g] at hk <;> omega
    have hkg:k*(n - t)≤20*6:=Nat.mul_le_mul (by omega) (by omega)
    unfold iE
    rw [hN,hT,cy (by omega) (by omega),bS,e2,eK (by omega) (by omega),bS,c1]
    by_cases g:k*(n - t) < m
    · rw [dT (by omega),cT,bh (by omega) (by omega),bS]
      exact ⟨_,rfl,⟨k+1,rfl,by rw [Nat.succ_mul];omega⟩,by omega⟩
    · rw [dF (by omega),cF]
      refine ⟨_,rfl,?_⟩
      show ((k:Nat):Int)=_
      congr 1
      rcases hg with g1 | g1 | g1 | g1 <;> rw [g1] at hk g ⊢ <;> omega) (s:=((0:Nat):Int)) ⟨0,rfl,by omega⟩ (by omega)
  rw [e,bS,h]
theorem zQ {w:ab} {m:Int} {most:Nat} (h4:most≤7) (hK:∀ x ∈ w.aa,x.K < 18446744073709551616):∃ b,jq w m ((most:Nat):Int)=some b∧(b=true→∃ n t k,Va w n t∧cL w=some true∧n≤7∧(t=1 ∨ t=2)∧m=((k:Nat):Int)∧k≤most∧∀ i,i < n→(k+(n - t - 1)) / (n - t)*(t+1+t*(t+1) / 2)≤(w.ax.getD i []).length):=by
  unfold jq
  obtain ⟨b,eb,hb⟩:=Da (w:=w) (lies:=((8:Nat):Int)) (words:=((100:Nat):Int)) hK (by omega) (by omega)
  rw [eb,bS]
  cases b
  · rw [nF,cT,bS,cT];exact ⟨_,rfl,fun h=>by cases h⟩
  · obtain ⟨n,t,v,hv⟩:=hb rfl
    have h13:=v.n13
    have t1:=v.t1
    have t3:=v.t3
    have n4:=v.n4
    rw [nT,cF]
    by_cases g1:m < 0
    · rw [dT g1,cT,bS,cT];exact ⟨_,rfl,fun h=>by cases h⟩
    · rw [dF g1,cF]
      by_cases g2:m > ((most:Nat):Int)
      · rw [dT g2,cT,bS,cT];exact ⟨_,rfl,fun h=>by cases h⟩
      · rw [dF g2,cF,v.N,bS]
        by_cases g3:n≤7
        · obtain ⟨k,rfl⟩:=Int.eq_ofNat_of_zero_le (show 0≤m by omega)
          have ht:t=1 ∨ t=2:=by omega
          have hk:k≤most:=by omega
          have hg:n - t=3 ∨ n - t=4 ∨ n - t=5 ∨ n - t=6:=by omega
          have etl:gQ w.S ((k:Nat):Int)=some (((k+(n - t - 1)) / (n - t)*(t+1+t*(t+1) / 2):Nat):Int):=by
            have hb3:(k+(n - t - 1)) / (n - t)≤3:=by rcases hg with g | g | g | g <;> rw [g] <;> omega
            unfold gQ lc
            rw [vt v.N v.T hg g3 (by omega),bS]
            generalize (k+(n - t - 1)) / (n - t)=b at *
            rw [v.T]
            rcases ht with rfl | rfl
            · rw [bh (by omega) (by omega),bS,bS,eK (by omega) (by omega),bS]
              show (some (1:Int) >>= _) >>= _=_
              rw [bS,bS,bh (by omega) (by omega),bS,eK (by omega) (by omega),bS]
              congr 1
            · rw [bh (by omega) (by omega),bS,bS,eK (by omega) (by omega),bS]
              show (some (3:Int) >>= _) >>= _=_
              rw [bS,bS,bh (by omega) (by omega),bS,eK (by omega) (by omega),bS]
              congr 1
          rw [dF (by omega),cF,v.tl,Nat.sub_zero]
          generalize hneed:(k+(n - t - 1)) / (n - t)*(t+1+t*(t+1) / 2)=need at *
          rcases B9 (body:=fun k1 (st:Unit)=>jH w ((k:Nat):Int) k1) (n:=n) (fun i=>need≤(w.ax.getD i []).length) (fun i hi=>by
            unfold jH
            rw [ix [] (by rw [v.tl];exact hi),bS,etl,bS]
            by_cases g:need≤(w.ax.getD i []).length
            · rw [dF (by omega),cF];exact .inr ⟨rfl,g⟩
            · rw [dT (by omega),cT];exact .inl rfl) with e | ⟨e,h⟩
          · rw [e,bS,oF];exact ⟨_,rfl,fun h=>by cases h⟩
          · rw [e,bS,oG];exact ⟨_,rfl,fun _=>⟨n,t,k,v,hv,g3,ht,rfl,hk,fun i hi=>by rw [hneed];exact h i hi⟩⟩
        · rw [dT (by omega),cT];exact ⟨_,rfl,fun h=>by cases h⟩
theorem IV {w:ab} {n t:Nat} (v:Va w n t):yn n (w.ax.map fun l=>(⟨l,0⟩:ay)) (fun i=>w.ax.getD i []) (fun _=>0):=⟨by simp [v.tl],fun i hi=>by
  have:i < w.ax.length:=by rw [v.tl];exact hi
  simp [List.getD_eq_getElem?_getD,this],fun i hi=>⟨Nat.zero_le _,v.ts i hi⟩⟩
theorem Kk {n:Nat}:VB n 0 (List.replicate n []):=⟨by simp,fun j hj=>by simp [List.getD_eq_getElem?_getD,hj]⟩
theorem ui (w:ab) (m:Int) (hK:∀ y ∈ w.aa,y.K < 18446744073709551616):dX w m=some true:=by
  unfold dX
  rw [JO,bS,nT,cF]
  obtain ⟨b,eb,hb⟩:=zQ (m:=m) (most:=7) (by omega) hK
  rw [eb,bS]
  cases b
  · rw [nF,cT]
  · obtain ⟨n,t,k,v,hv,hn,ht,rfl,hk,htl⟩:=hb rfl
    have hp:=v.sup
    have:NeZero w.S.P:=hp.ne
    rw [nT,cF,G2 v,bS,sR]
    by_cases hk0:0 < k
    · obtain ⟨out,views,T,H,sec,ez,z1,z2,_⟩:=E6 (net:=⟨w,0,List.replicate n [],w.ax.map fun l=>⟨l,0⟩⟩) (m:=k) v.toSc ht hn hk0 hk (IV v) (fun d hd=>by rw [Nat.zero_add];exact htl d hd) (fun d hd=>v.tb d hd) Kk (by omega) (by show 0≤(0:Int)∧(0:Int)≤700;omega)
      simp only at z2
      rw [ez,bS]
      simp only
      rw [Nat.sub_zero,z1,Hj (fun i _ hi=>by
        obtain ⟨x,ex,_⟩:=Am v.toSc hn (by omega) (z2 i (by omega))
        unfold fT
        rw [ix [] (by simp only;omega),bS,ex,bS]
        simp only
        rw [nT,cF]),bS,oG,eT rfl]
    · have:k=0:=by omega
      subst this
      unfold cw
      rw [eT (a:=((0:Nat):Int)) (b:=0) rfl,cT,bS]
      simp only
      rfl
end Pu
