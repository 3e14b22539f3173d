/- Plain laws of chapter 24: hyperinvertible matrices, multiples and sums of sharings. -/
import Derived.Test.YtkmbblnepjofaaaGreatDoorRf
set_option linter.unusedVariables false
namespace Pu
open Gw Gl Sp
theorem vD {a n:Nat} (hn:n≤100) (ha:a≤100):e5 ((a:Nat):Int) ((n:Nat):Int)=some ((List.range n).map fun i=>a+i):=by
  have e0:max 0 ((n:Nat):Int).toNat=n:=by omega
  unfold e5
  rw [e0,bZ (by omega),bS,Nat.sub_zero,gA (fun i=>a+i) (fun k l hk hl=>by
    have hu:sj (((a:Nat):Int)+((k:Nat):Int))=a+k:=by unfold sj;omega
    unfold kJ
    rw [bd (by omega) (by omega),bS,bS,hu,aO (by simp only [List.length_cons,List.length_nil];omega) (by simp only [List.length_cons,List.length_nil];omega),bS]),bS]
section
variable {p:Nat} [NeZero p]
theorem Ca (hp:fM p) {n at_:Nat} (hu:eI ((List.range n).map fun i=>1+i)=some true) (h7:n≤13) (ha:at_ < p):∃ l,eU p ((List.range n).map fun i=>1+i) at_=some (l,0)∧l.length=n∧Lt p l∧∀ k,k < n→o p (l.getD k 0)*pd (fun j=>o p (1+j)) k (o p (1+k)) n=pd (fun j=>o p (1+j)) k (o p at_) n:=by
  have hlt:=hp.lt
  have hg:∀ j,j < n→((List.range n).map fun i=>1+i)[j]?=some (1+j):=fun j hj=>by rw [List.getElem?_map,List.getElem?_range hj];rfl
  unfold eU
  rw [hu,bS,nT,cF,eE,Nat.sub_zero]
  obtain ⟨l,e,l1,l2,l3⟩:=bj (body:=fun k1 (st:(List Nat))=>fG p ((List.range n).map fun i=>1+i) at_ k1 st) (fun k l=>l.length=k∧Lt p l∧∀ i,i < k→o p (l.getD i 0)*pd (fun j=>o p (1+j)) i (o p (1+i)) n=pd (fun j=>o p (1+j)) i (o p at_) n) (rem:=n) (k:=0) (s:=[]) ⟨rfl,fun i hi=>by simp at hi,fun i hi=>by omega⟩ (fun k l _ hk ⟨l1,l2,l3⟩=>by
    have hkn:k < n:=by omega
    unfold fG cK
    rw [hg k hkn,bS,eE,Nat.sub_zero]
    obtain ⟨r,er,r1,r2,r3,r4⟩:=bj (body:=fun k1 (st:Nat × Nat)=>bo ((List.range n).map fun i=>1+i) ((k:Nat):Int) p at_ (1+k) k1 st.1 st.2) (fun j st=>st.1 < p∧st.2 < p∧o p st.1=pd (fun j=>o p (1+j)) k (o p at_) j∧o p st.2=pd (fun j=>o p (1+j)) k (o p (1+k)) j) (rem:=n) (k:=0) (s:=(1,1)) ⟨by show 1 < p;omega,by show 1 < p;omega,by simp only [pd,uB],by simp only [pd,uB]⟩ (fun j st _ hj ⟨s1,s2,s3,s4⟩=>by
      have hjn:j < n:=by omega
      unfold bo
      rw [hg j hjn,bS]
      by_cases g:j=k
      · rw [qF (by omega),cF];exact ⟨_,rfl,s1,s2,by rw [pd,if_pos g];exact s3,by rw [pd,if_pos g];exact s4⟩
      · unfold fR
        rw [qT (by omega),cT,vO hp ha (by omega),bS,jI hp s1 (Nat.mod_lt _ hp.pos),bS,vO hp (by omega) (by omega),bS,jI hp s2 (Nat.mod_lt _ hp.pos),bS,bS]
        refine ⟨_,rfl,Nat.mod_lt _ hp.pos,Nat.mod_lt _ hp.pos,?_,?_⟩
        · simp only
          rw [kK,nZ,vB (by omega),s3,pd,if_neg g]
        · simp only
          rw [kK,nZ,vB (by omega),s4,pd,if_neg g])
    obtain ⟨x,y⟩:=r
    rw [Nat.zero_add] at r3 r4
    simp only at r1 r2 r3 r4
    have hy:y≠0:=fun h=>by
      refine wz hp (X:=fun j=>o p (1+j)) (i:=k) (y:=o p (1+k)) (n:=n) (fun j hj hjk e=>?_) (by rw [← r4,h,kO])
      have e:o p (1+k)=o p (1+j):=by grind
      have:=pa (p:=p) (by omega) (by omega) e
      omega
    obtain ⟨z,ez,hz,hz2⟩:=AV hp r1 r2 hy
    rw [er,bS]
    simp only
    rw [bS]
    simp only
    rw [ez,bS,aO (by simp only [List.length_cons,List.length_nil];omega) (by simp only [List.length_cons,List.length_nil];omega),bS]
    refine ⟨_,rfl,by rw [List.length_append,l1];rfl,fun i hi=>?_,fun i hi=>?_⟩
    · rw [List.length_append] at hi
      have hi:i < l.length+1:=hi
      by_cases g:i < l.length
      · rw [da g];exact l2 i g
      · rw [eG (by omega)];exact hz
    · by_cases g:i < k
      · rw [da (by omega)];exact l3 i g
      · have:i=k:=by omega
        subst this
        rw [eG (by omega),← r3,← r4,hz2])
  rw [Nat.zero_add] at l1 l3
  rw [e,bS]
  exact ⟨l,rfl,l1,l2,l3⟩
theorem GJ (hp:fM p) {r n:Nat} (hu:eI ((List.range n).map fun i=>1+i)=some true) (hr:1≤r) (hr7:r≤12) (h1:1≤n) (h7:n≤13) (hrn:n+r < 31):∃ H,dZ p ((r:Nat):Int) ((n:Nat):Int)=some (H,0)∧H.length=r∧(∀ i,i < r→(H.getD i []).length=n∧Lt p (H.getD i []))∧∀ i,i < r→∀ k,k < n→o p ((H.getD i []).getD k 0)*pd (fun j=>o p (1+j)) k (o p (1+k)) n=pd (fun j=>o p (1+j)) k (o p (n+1+i)) n:=by
  have hlt:=hp.lt
  have hv:sj (((r:Nat):Int)+((n:Nat):Int))=r+n:=by unfold sj;omega
  have e1:((n:Nat):Int)+1=((n+1:Nat):Int):=by omega
  unfold dZ
  rw [dF (by omega),cF,dF (by omega),cF,dF (by omega),cF,dF (by omega),cF,bd (by omega) (by omega),bS,bS,hv,dF (by omega),bS,cF,vD (by omega) (by omega),bS,bd (by omega) (by omega),bS,e1,vD (by omega) (by omega),bS,eE,Nat.sub_zero]
  obtain ⟨o1,e,ho⟩:=ef (body:=fun k1 (st:(List (List Nat)))=>jk p ((List.range n).map fun i=>1+i) ((List.range r).map fun i=>n+1+i) k1 st) (fun k l=>l.length=k∧∀ i,i < k→(l.getD i []).length=n∧Lt p (l.getD i [])∧∀ j,j < n→o p ((l.getD i []).getD j 0)*pd (fun j=>o p (1+j)) j (o p (1+j)) n=pd (fun j=>o p (1+j)) j (o p (n+1+i)) n) (fun _=>False) (rem:=r) (k:=0) (s:=[]) ⟨rfl,fun i hi=>by omega⟩ (fun k l _ hk ⟨l1,l2⟩=>by
    have hkr:k < r:=by omega
    obtain ⟨x,ex,x1,x2,x3⟩:=Ca hp hu h7 (show n+1+k < p by omega)
    have hg:((List.range r).map fun i=>n+1+i)[k]?=some (n+1+k):=by rw [List.getElem?_map,List.getElem?_range hkr];rfl
    unfold jk
    rw [hg,bS,ex,bS]
    simp only
    rw [qF rfl,cF,aO (by simp only [List.length_cons,List.length_nil];omega) (by simp only [List.length_cons,List.length_nil];omega),bS]
    refine ⟨_,rfl,by rw [List.length_append,l1];rfl,fun i hi=>?_⟩
    by_cases g:i < k
    · rw [da (by omega)];exact l2 i g
    · have:i=k:=by omega
      subst this
      rw [eG (by omega)];exact ⟨x1,x2,x3⟩)
  rw [e,bS]
  cases o1 with
  | fin b=>exact ho.elim
  | go l =>
    rw [Nat.zero_add] at ho
    rw [oG]
    exact ⟨l,rfl,ho.1,fun i hi=>⟨(ho.2 i hi).1,(ho.2 i hi).2.1⟩,fun i hi=>(ho.2 i hi).2.2⟩
theorem yv (hp:fM p) {r n:Nat} (hr:1≤r) (hr7:r≤7) (h1:1≤n) (h7:n≤7):∃ H,dZ p ((r:Nat):Int) ((n:Nat):Int)=some (H,0)∧H.length=r∧(∀ i,i < r→(H.getD i []).length=n∧Lt p (H.getD i []))∧∀ i,i < r→∀ k,k < n→o p ((H.getD i []).getD k 0)*pd (fun j=>o p (1+j)) k (o p (1+k)) n=pd (fun j=>o p (1+j)) k (o p (n+1+i)) n:=by
  refine GJ hp ?_ hr (by omega) h1 (by omega) (by omega)
  refine wL ?_ (by simp;exact h1) (by simp;exact h7)
  rw [List.Nodup,List.pairwise_map]
  exact List.Pairwise.imp (fun {a b} h=>by omega) List.nodup_range
end
section
variable {w:ab} [NeZero w.S.P] {n t:Nat}
theorem B8 {p:Nat} (hp:fM p) {a:List Nat} {k:Nat} (ha:Lt p a) (hk:k < p) {m:Nat} (h1:a.length=m) (hm:m≤1000):eh a a k p=some ((List.range m).map fun j=>k*a.getD j 0 % p):=by
  have hlt:=hp.lt
  unfold eh cg
  rw [h1,cV (by omega) (by omega) (by omega) (by omega),bS,Int.toNat_natCast,Nat.sub_zero]
  obtain ⟨r,e,r1,r2⟩:=bj (body:=fun k1 (st:(List Nat))=>bY a a k p k1 st) (fun q r=>r.length=m∧∀ j,j < q→r.getD j 0=k*a.getD j 0 % p) (rem:=m) (k:=0) (s:=List.replicate m 0)
    ⟨by simp,fun j hj=>by omega⟩ (fun q r _ hq ⟨r1,r2⟩=>by
      unfold bY fA oQ
      rw [ix 0 (by omega),bS,bS,jI hp hk (ha.get hp.pos q),bS,bS,bS,ix 0 (by omega),bS,bS]
      refine ⟨_,rfl,by rw [List.length_set];exact r1,fun j hj=>?_⟩
      rw [aN (by omega)]
      by_cases g:q=j
      · rw [if_pos g,g]
      · rw [if_neg g];exact r2 j (by omega))
  rw [Nat.zero_add] at r2
  rw [e,bS,bS,Ik r1 eE fun i hi=>by rw [r2 i hi,en hi]]
/-- a multiple of a sharing -/
theorem tQ.scale (hp:fM w.S.P) (hn:n≤13) (ht:t≤13) {a:List (List Nat)} {c:Fin w.S.P} (A:tQ w n t a c) {k:Nat} (hk:k < w.S.P):∃ s,og w.S.P k a=some s∧tQ w n t s (o w.S.P k*c):=by
  have hlt:=hp.lt
  have hw:=fun i (hi:i < n)=>B8 hp (A.r i hi).2 hk (A.r i hi).1 (by omega)
  unfold og gI ce
  rw [A.l,cV (by omega) (by omega) (by omega) (by omega),bS,Int.toNat_natCast,Nat.sub_zero]
  obtain ⟨r,e,r1,r2⟩:=bj (body:=fun k1 (st:(List (List Nat)))=>bX a a k w.S.P k1 st) (fun q r=>r.length=n∧∀ i,i < q→r.getD i []=(List.range (t+1)).map fun j=>k*(a.getD i []).getD j 0 % w.S.P) (rem:=n) (k:=0) (s:=List.replicate n [])
    ⟨by simp,fun j hj=>by omega⟩ (fun q r _ hq ⟨r1,r2⟩=>by
      unfold bX
      rw [ix [] (by rw [A.l];omega),bS,bS,hw q (by omega),bS,ix [] (by omega),bS,bS]
      refine ⟨_,rfl,by rw [List.length_set];exact r1,fun j hj=>?_⟩
      rw [aN (by omega)]
      by_cases g:q=j
      · rw [if_pos g,g]
      · rw [if_neg g];exact r2 j (by omega))
  rw [Nat.zero_add] at r2
  rw [e,bS,bS,bS]
  have hev:∀ i,i < n→∀ y,dy (P w.S.P (r.getD i [])) y=o w.S.P k*dy (P w.S.P (a.getD i [])) y:=fun i hi y=>by
    rw [r2 i hi,← qb]
    refine oj (fun j=>?_) y
    rw [Ae,re,re]
    by_cases g:j < t+1
    · rw [en g,kK,nZ]
    · rw [zM (by rw [eE];omega),zM (by rw [(A.r i hi).1];omega),kO];grind
  refine ⟨r,rfl,r1,fun i hi=>?_,fun i hi hhi j hj hhj=>?_,fun y=>?_⟩
  · rw [r2 i hi]
    refine ⟨eE,fun j hj=>?_⟩
    rw [eE] at hj
    rw [en hj]
    exact Nat.mod_lt _ hp.pos
  · rw [hev i hi,hev j hj,A.cs i hi hhi j hj hhj]
  · obtain ⟨g,g1,g2,g3⟩:=A.sp y
    refine ⟨wi (o w.S.P k) g,by rw [tF];omega,fun i hi hhi=>?_,fun hy=>?_⟩
    · rw [hev i hi,qb,g2 i hi hhi]
    · rw [qb,g3 hy]
/-- a sum of sharings -/
theorem El (hp:fM w.S.P) (hn:n≤13) (ht:t≤13) {a:List (List Nat)} {c:Fin w.S.P} (A:tQ w n t a c) {l:List (List (List Nat))} {m:Nat} (hl:l.length=m) {z:Nat→Fin w.S.P} (h:∀ i,i < m→tQ w n t (l.getD i []) (z i)):∃ s,kG w.S.P a l=some s∧tQ w n t s (c+sm m z):=by
  unfold kG
  rw [hl,Nat.sub_zero]
  obtain ⟨r,e,hr⟩:=bj (body:=fun k1 (st:(List (List Nat)))=>kR w.S.P l k1 st) (fun k r=>tQ w n t r (c+sm k z)) (rem:=m) (k:=0) (s:=a) (by
    have:c+sm 0 z=c:=by rw [sm];grind
    rw [this];exact A) (fun k r _ hk R=>by
    obtain ⟨s,es,S⟩:=tQ.add hp hn ht R (h k (by omega))
    unfold kR
    rw [ix [] (by omega),bS,es,bS]
    refine ⟨s,rfl,?_⟩
    have:c+sm k z+z k=c+sm (k+1) z:=by rw [sm];grind
    rw [← this];exact S)
  rw [Nat.zero_add] at hr
  rw [e,bS]
  exact ⟨r,rfl,hr⟩
/-- the secret of the honest rows -/
theorem B6 (s:Sc w n t) (hn:n≤7) (ht:t≤2) {a:List (List Nat)} {c:Fin w.S.P} (A:tQ w n t a c):∃ x,iS w a=some (x,true)∧x < w.S.P∧o w.S.P x=c:=by
  have hp:=s.sup
  have hlt:=hp.lt
  have h3:=s.t3
  have hl:=A.l
  have hHl:∀ k,(j0 w k).length≤k:=fun k=>zF
  unfold iS kP
  obtain ⟨r,er,hr⟩:=iR (step:=fun (st:(List Nat) × (List (List Nat)) × Int)=>e7 w a st.1 st.2.1 st.2.2)
    (fun st=>∃ k,k≤n∧st=((j0 w k).map (·+1),(j0 w k).map fun i=>a.getD i [],((k:Nat):Int))) (fun r=>r=((j0 w n).map (·+1),(j0 w n).map fun i=>a.getD i [])) (fun st=>n - st.2.2.toNat)
    (fun st ⟨k,hk,hst⟩=>by
      subst hst
      simp only
      unfold e7
      by_cases g:k < n
      · have hu:sj (((k:Nat):Int)+1)=k+1:=by unfold sj;omega
        have:=hHl k
        rw [s.N,dT (by omega),cT,dT (by omega),bS,cT,bd (by omega) (by omega),bS,uh,bS]
        by_cases gc:(((k:Nat):Int)+1) ∉ w.af
        · rw [dT gc,cT,bS,hu,aO (by simp only [List.length_cons,List.length_nil,List.length_map];omega) (by simp only [List.length_cons,List.length_nil,List.length_map];omega),bS,aQ [] (by omega) (by omega),bS,Int.toNat_natCast,aO (by simp only [List.length_cons,List.length_nil,List.length_map];omega) (by simp only [List.length_cons,List.length_nil,List.length_map];omega),bS]
          refine ⟨_,rfl,⟨k+1,g,?_⟩,by simp only;omega⟩
          rw [kX,if_pos gc,List.map_append,List.map_append];rfl
        · rw [dF gc,cF]
          refine ⟨_,rfl,⟨k+1,g,?_⟩,by simp only;omega⟩
          rw [kX,if_neg gc,List.append_nil];rfl
      · have:k=n:=by omega
        subst this
        rw [s.N,dF (by omega),cF,bS,cF]
        exact ⟨_,rfl,rfl⟩) (s:=([],[],((0:Nat):Int))) ⟨0,by omega,rfl⟩ (by simp only;omega)
  subst hr
  rw [er,bS]
  simp only
  rw [bS]
  simp only
  have hmem:=fun i (hi:i < (j0 w n).length)=>AN hi
  have hcnt:=AM s
  have hHn:=hHl n
  have hx:∀ i,i < (j0 w n).length→((j0 w n).map (·+1)).getD i 0=(j0 w n).getD i 0+1:=fun i hi=>by
    rw [List.getD_eq_getElem?_getD,List.getElem?_map,ix 0 hi];rfl
  have hr:∀ i,i < (j0 w n).length→((j0 w n).map fun i=>a.getD i []).getD i []=a.getD ((j0 w n).getD i 0) []:=fun i hi=>by
    rw [List.getD_eq_getElem?_getD,List.getElem?_map,ix 0 hi];rfl
  obtain ⟨S,eS,s1,s2,s3,s4⟩:=zG hp (xs:=(j0 w n).map (·+1)) (rows:=(j0 w n).map fun i=>a.getD i []) (t:=t) (N:=(j0 w n).length)
    ⟨by simp,by simp,by omega,by omega,ht,fun i hi=>by rw [hx i hi];have:=(hmem i hi).1;omega,fun i j hi hj h=>by rw [hx i hi,hx j hj];have:=IU hi hj h;omega,
      fun i hi=>by rw [hr i hi];exact A.r _ (hmem i hi).1,fun i hi j hj=>by
        rw [hr i hi,hr j hj,hx i hi,hx j hj]
        exact A.cs _ (hmem i hi).1 (.inl (hmem i hi).2) _ (hmem j hj).1 (.inl (hmem j hj).2),fun y=>by
        obtain ⟨g,g1,g2,_⟩:=A.sp y
        exact ⟨g,g1,fun i hi=>by rw [hr i hi,hx i hi];exact g2 _ (hmem i hi).1 (.inl (hmem i hi).2)⟩⟩
  rw [s.T,eS,bS]
  simp only
  rw [qF rfl,cF,s1,eF (by omega),cF,ix [] (by omega),bS,s2,eF (by omega),cF,ix 0 (by omega),bS]
  obtain ⟨g,g1,g2,g3⟩:=A.sp 0
  exact ⟨_,rfl,s3,by rw [s4 g g1 (fun i hi=>by rw [hr i hi,hx i hi];exact g2 _ (hmem i hi).1 (.inl (hmem i hi).2)),g3 rfl]⟩
end
end Pu

/- Plain laws of chapter 24: random sharings, and that they are consistent. -/
set_option linter.unusedVariables false
namespace Pu
open Gw Gl Sp
theorem LL:lz=some true:=by decide +kernel
theorem DX {body:Nat→Unit→Option (Out Unit Bool)} {n:Nat} (G:Nat→Prop) (h:∀ k,k < n→body k ()=some (.fin false) ∨ (body k ()=some (.go ())∧G k)):pi body n 0 ()=some (.fin false) ∨ (pi body n 0 ()=some (.go ())∧∀ k,k < n→G k):=by
  obtain ⟨o,e,ho⟩:=ef (body:=body) (fun k _=>∀ j,j < k→G j) (fun b=>b=false) (rem:=n) (k:=0) (s:=()) (fun j hj=>by omega) (fun k s _ hk hI=>by
    rcases h k (by omega) with e | ⟨e,hg⟩
    · exact ⟨_,e,rfl⟩
    · refine ⟨_,e,fun j hj=>?_⟩
      by_cases g:j=k
      · subst g;exact hg
      · exact hI j (by omega))
  cases o with
  | fin b=>exact .inl (by rw [e,show b=false from ho])
  | go u=>exact .inr ⟨e,fun k hk=>ho k (by omega)⟩
theorem divN {a b:Nat} (hb:0 < b) (ha:a < 9223372036854775808):vo ((a:Nat):Int) ((b:Nat):Int)=some ((a / b:Nat):Int):=by
  unfold vo
  rw [if_neg (by omega)]
  have h:((a:Nat):Int).tdiv ((b:Nat):Int)=((a / b:Nat):Int):=rfl
  rw [h]
  have:=Nat.div_le_self a b
  clear h
  generalize a / b=q at *
  exact p5 (by omega) (by omega)
/-- a row of a result -/
def KS (res:bv) (i d k:Nat):List Nat:=((res.Rows.getD i []).getD d []).getD k []
/-- a result's form: c rows of each dealer -/
structure Fm (p n t c:Nat) (res:bv):Prop where
  rl:res.Rows.length=n
  row:∀ i,i < n→(res.Rows.getD i []).length=n
  many:∀ i,i < n→∀ d,d < n→((res.Rows.getD i []).getD d []).length=c
  ww:∀ i,i < n→∀ d,d < n→∀ k,k < c→(KS res i d k).length=t+1∧Lt p (KS res i d k)
theorem Lq.fm {w:ab} {tapes:List (List Nat)} {q:List (List (List Nat))} {n t c:Nat} {res:bv} (r:Lq w tapes q n t res) (hc:∀ d,d < n→(q.getD d []).length=c):Fm w.S.P n t c res :=
  ⟨r.rl,r.row,fun i hi d hd=>by rw [r.many i hi d hd,hc d hd],fun i hi d hd k hk=>r.ww i hi d hd k (by rw [hc d hd];exact hk)⟩
/-- a sharing -/
def shr (res:bv) (n d k:Nat):List (List Nat):=(List.range n).map fun i=>KS res i d k
section
variable {p n t c:Nat} {res:bv}
theorem A3 {d k:Nat}:(shr res n d k).length=n:=eE
theorem si {i d k:Nat} (hi:i < n):(shr res n d k).getD i []=KS res i d k:=en hi
theorem Hh (F:Fm p n t c res) (hn:n≤100) (hc:c≤10) {d k:Nat} (hd:d < n) (hk:k < c):na res ((d+1:Nat):Int) ((k:Nat):Int)=some (shr res n d k):=by
  have e0:((d+1:Nat):Int) - 1=((d:Nat):Int):=by omega
  unfold na
  rw [Nat.sub_zero,F.rl,gA (fun i=>KS res i d k) (fun i l hi hl=>by
    unfold qm
    rw [ix [] (by rw [F.rl];exact hi),bS,cN (by omega) (by omega),bS,e0,aQ [] (by omega) (by rw [F.row i hi];omega),bS,Int.toNat_natCast,aQ [] (by omega) (by rw [F.many i hi d hd];omega),bS,Int.toNat_natCast,aO (by simp only [List.length_cons,List.length_nil];omega) (by simp only [List.length_cons,List.length_nil];omega),bS]
    rfl),bS]
  rfl
end
theorem z8.congr {n:Nat} {T:List aA} {tp:Nat→List Nat} {ps ps':Nat→Nat} (h:z8 n T tp ps) (e:∀ i,i < n→ps i=ps' i):z8 n T tp ps' :=
  ⟨h.len,fun i hi=>by rw [h.at_ i hi,e i hi],fun i hi=>by rw [← e i hi];exact h.le i hi⟩
/-- sharings stand -/
theorem Com.std {w:ab} [NeZero w.S.P] {q:List (List (List Nat))} {n t c:Nat} {res:bv} (s:Sc w n t) (C:Com w q n t res) (F:Fm w.S.P n t c res) (hc:∀ d,d < n→(q.getD d []).length=c) {d k:Nat} (hd:d < n) (hk:k < c):∃ z,tQ w n t (shr res n d k) z:=by
  have hp:=s.sup
  have hlt:=hp.lt
  have h13:=s.n13
  have h3:=s.t3
  have hk':k < (q.getD d []).length:=by rw [hc d hd];exact hk
  obtain ⟨f0,a1,a2,a3⟩:=C.sp d hd k hk' 0
  refine ⟨dy (P w.S.P f0) 0,A3,fun i hi=>by rw [si hi];exact F.ww i hi d hd k hk,fun i hi hhi j hj hhj=>?_,fun y=>?_⟩
  · rw [si hi,si hj]
    obtain ⟨b1,b2⟩:=F.ww i hi d hd k hk
    obtain ⟨c1,c2⟩:=F.ww j hj d hd k hk
    have e1:=(jn hp b2 (show j+1 < w.S.P by omega) (by omega)).2.2
    have e2:=(jn hp c2 (show i+1 < w.S.P by omega) (by omega)).2.2
    rw [← e1,← e2]
    exact congrArg _ (C.cs d hd k hk' i hi hhi j hj hhj)
  · by_cases g:y=0
    · subst g
      exact ⟨P w.S.P f0,by rw [sD];exact a2,fun i hi hh=>by rw [si hi];exact a3 i hi hh,fun _=>rfl⟩
    · obtain ⟨f,b1,b2,b3⟩:=C.sp d hd k hk' y
      exact ⟨P w.S.P f,by rw [sD];exact b2,fun i hi hh=>by rw [si hi];exact b3 i hi hh,fun h=>absurd h g⟩
/-- the number of batches -/
theorem y7 {s:aL} {n t m:Nat} (hN:s.N=(n:Int)) (hT:s.T=(t:Int)) (ht:t < n) (hn:n≤100) (hm:m≤100):gW s ((m:Nat):Int)=some (((m+(n - t - 1)) / (n - t):Nat):Int):=by
  have e1:((m:Nat):Int)+((n:Nat):Int) - ((t:Nat):Int) - 1=((m+(n - t - 1):Nat):Int):=by omega
  have e2:((n:Nat):Int) - ((t:Nat):Int)=((n - t:Nat):Int):=by omega
  unfold gW
  rw [hN,hT,bd (by omega) (by omega),bS,cN (by omega) (by omega),bS,cN (by omega) (by omega),bS,cN (by omega) (by omega),bS,e1,e2,divN (by omega) (by omega),bS]
/-- the first rows that a dealer takes -/
def DT (l:List Nat) (a t k:Nat):List Nat:=(l.drop (a+k*(t+1))).take (t+1)
theorem Jp {p:Nat} (hp:0 < p) {l:List Nat} (hl:Lt p l) {a t k b:Nat} (h:a+b*(t+1)≤l.length) (hk:k < b):(DT l a t k).length=t+1∧Lt p (DT l a t k):=by
  unfold DT
  have:k*(t+1)+(t+1)≤b*(t+1):=by rw [← Nat.succ_mul];exact Nat.mul_le_mul_right (t+1) hk
  refine ⟨by rw [List.length_take,List.length_drop];omega,fun i hi=>?_⟩
  rw [List.getD_eq_getElem?_getD,List.getElem?_take]
  split
  · rw [List.getElem?_drop,← List.getD_eq_getElem?_getD];exact hl.get hp _
  · exact hp
def G7 (n t b:Nat) (tp:Nat→List Nat) (ps:Nat→Nat):List (List (List Nat)):=(List.range n).map fun d=>(List.range b).map (DT (tp d) (ps d) t)
theorem Ee {net:au} {n t b:Nat} (s:Sc net.zw n t) (ht:t≤2) (hb:b≤10) (hn:n≤7) {tp:Nat→List Nat} {ps:Nat→Nat} (hts:z8 n net.ap tp ps) (h:∀ d,d < n→ps d+b*(t+1)≤(tp d).length) :
    ∃ T,dO (fun k1 (st:(List aA) × (List (List (List Nat))))=>cM net net.zw ((b:Nat):Int) k1 st.1 st.2) n 0 (net.ap,List.replicate n [])=some (T,G7 n t b tp ps)∧z8 n T tp (fun i=>ps i+b*(t+1)):=by
  have eb:max 0 ((b:Nat):Int).toNat=b:=by omega
  have et:((t:Nat):Int)+1=((t+1:Nat):Int):=by omega
  obtain ⟨r,er,q1,q2,q3,q4,q5⟩:=bj (body:=fun k1 (st:(List aA) × (List (List (List Nat))))=>cM net net.zw ((b:Nat):Int) k1 st.1 st.2)
    (fun k st=>st.1.length=n∧(∀ j,j < n→st.1.getD j ⟨[],0⟩=if j < k then ⟨tp j,((ps j+b*(t+1):Nat):Int)⟩ else ⟨tp j,((ps j:Nat):Int)⟩)∧st.2.length=n∧(∀ j,j < k→st.2.getD j []=(List.range b).map (DT (tp j) (ps j) t))∧∀ j,k≤j→j < n→st.2.getD j []=[]) (rem:=n) (k:=0) (s:=(net.ap,List.replicate n []))
    ⟨hts.len,fun j hj=>by rw [if_neg (by omega)];exact hts.at_ j hj,by simp,fun j hj=>by omega,fun j _ hj=>by simp [List.getD_eq_getElem?_getD,hj]⟩ (fun d st _ hk ⟨q1,q2,q3,q4,q5⟩=>by
      obtain ⟨T,l⟩:=st
      simp only at q1 q2 q3 q4 q5
      have hd:d < n:=by omega
      have hT0:=q2 d hd
      rw [if_neg (by omega)] at hT0
      have e1:((d:Nat):Int)+1 - 1=((d:Nat):Int):=by omega
      have hbt:((b:Nat):Int)*((t+1:Nat):Int)=((b*(t+1):Nat):Int):=by rw [Int.natCast_mul]
      have hb30:b*(t+1)≤30:=Nat.le_trans (Nat.mul_le_mul hb (show t+1≤3 by omega)) (by omega)
      have hh:=h d hd
      have htl:=(hts.le d hd).2
      unfold cM fH
      rw [bd (by omega) (by omega),bS]
      simp only
      rw [cN (by omega) (by omega),bS,e1,aQ ⟨[],0⟩ (by omega) (by omega),bS,bS,Int.toNat_natCast,s.T,bd (by omega) (by omega),bS,et,fk (by omega) (by omega),bS,hbt,ix ⟨[],0⟩ (by omega),bS,hT0,A5 hh htl,bS]
      simp only
      rw [bS,eb,bZ (by omega),bS,Nat.sub_zero]
      obtain ⟨r,er,r1,r2,r3⟩:=bj (body:=fun k2 (st:(List (List (List Nat))))=>gr d ((t+1:Nat):Int) (((tp d).drop (ps d)).take (b*(t+1)),0,((ps d+b*(t+1):Nat):Int)) k2 st)
        (fun k r=>r.length=n∧r.getD d []=(List.range k).map (DT (tp d) (ps d) t)∧∀ j,j≠d→r.getD j []=l.getD j []) (rem:=b) (k:=0) (s:=l) ⟨q3,q5 d (Nat.le_refl d) hd,fun _ _=>rfl⟩ (fun k r _ hk ⟨r1,r2,r3⟩=>by
          have hkb:k < b:=by omega
          have c1:k*(t+1)+(t+1)≤b*(t+1):=by rw [← Nat.succ_mul];exact Nat.mul_le_mul_right (t+1) hkb
          have c2:((k:Nat):Int)*((t+1:Nat):Int)=((k*(t+1):Nat):Int):=by rw [Int.natCast_mul]
          have c3:(((k:Nat):Int)+1)*((t+1:Nat):Int)=((k*(t+1)+(t+1):Nat):Int):=by rw [← Nat.succ_mul,Int.natCast_mul];rfl
          have hcut:(((tp d).drop (ps d)).take (b*(t+1)) |>.drop (k*(t+1))).take (k*(t+1)+(t+1) - k*(t+1))=DT (tp d) (ps d) t k:=by
            unfold DT
            rw [List.drop_take,List.drop_drop,List.take_take]
            congr 1
            omega
          have hwl:(((tp d).drop (ps d)).take (b*(t+1))).length=b*(t+1):=by rw [List.length_take,List.length_drop];omega
          unfold gr
          simp only
          generalize k*(t+1)=kt at *
          rw [ix [] (by omega),bS,fk (by omega) (by omega),bS,bd (by omega) (by omega),bS,fk (by omega) (by omega),bS,c2,c3,gP (by omega) (by omega) (by rw [hwl];omega),bS,Int.toNat_natCast,Int.toNat_natCast,hcut,aO (by rw [r2,eE];simp only [List.length_cons,List.length_nil];omega) (by rw [r2,eE];simp only [List.length_cons,List.length_nil];omega),bS,bS]
          refine ⟨_,rfl,by rw [List.length_set];exact r1,?_,fun j hj=>?_⟩
          · rw [aN (by omega),if_pos rfl,r2,List.range_succ,List.map_append];rfl
          · rw [aN (by omega),if_neg (fun e=>hj e.symm)];exact r3 j hj)
      rw [Nat.zero_add] at r2
      rw [er,bS]
      refine ⟨_,rfl,by simp only [List.length_set];exact q1,fun j hj=>?_,r1,fun j hj=>?_,fun j hj hjn=>?_⟩
      · simp only
        rw [aN (by omega)]
        by_cases g:d=j
        · rw [if_pos g,if_pos (by omega),← g]
        · rw [if_neg g,q2 j hj]
          by_cases g2:j < d
          · rw [if_pos g2,if_pos (by omega)]
          · rw [if_neg g2,if_neg (by omega)]
      · by_cases g:j=d
        · subst g;exact r2
        · rw [r3 j g];exact q4 j (by omega)
      · rw [r3 j (by omega)];exact q5 j (by omega) hjn)
  obtain ⟨T,l⟩:=r
  simp only at q1 q2 q3 q4
  rw [Nat.zero_add] at q2 q4
  have hl:l=G7 n t b tp ps:=by
    apply List.ext_getElem?
    intro i
    unfold G7
    by_cases g:i < n
    · rw [ix [] (by omega),q4 i g,List.getElem?_map,List.getElem?_range g];rfl
    · rw [List.getElem?_eq_none (by omega),List.getElem?_eq_none (by simp;omega)]
  rw [er,hl]
  refine ⟨T,rfl,q1,fun j hj=>by rw [q2 j hj,if_pos hj],fun j hj=>⟨h j hj,(hts.le j hj).2⟩⟩
theorem Jo {p n t b:Nat} (hp:0 < p) (ht:t=1 ∨ t=2) (hb:b≤10) {T:List aA} {tp:Nat→List Nat} {ps:Nat→Nat} (hts:z8 n T tp ps) (h:∀ d,d < n→ps d+b*(t+1+t*(t+1) / 2)≤(tp d).length) (hlt:∀ d,d < n→Lt p (tp d)) :
    Qs p n t (G7 n t b tp ps) (rem n tp fun i=>ps i+b*(t+1))∧(∀ d,d < n→((G7 n t b tp ps).getD d []).length=b)∧∀ d,d < n→ps d+b*(t+1)≤(tp d).length:=by
  have hq:∀ d,d < n→(G7 n t b tp ps).getD d []=(List.range b).map (DT (tp d) (ps d) t):=fun d hd=>en hd
  have h1:∀ d,d < n→ps d+b*(t+1)≤(tp d).length:=fun d hd=>by
    have:=h d hd
    have:b*(t+1)≤b*(t+1+t*(t+1) / 2):=Nat.mul_le_mul_left b (Nat.le_add_right ..)
    omega
  refine ⟨⟨eE,by simp [rem],fun d hd=>?_,fun d hd=>?_,fun d hd k hk=>?_⟩,fun d hd=>by rw [hq d hd,eE],h1⟩
  · rw [hq d hd,eE,u0 hd,List.length_drop]
    have:=h d hd
    rcases ht with rfl | rfl
    · exact ⟨hb,by have:ps d+b*3≤(tp d).length:=this;show b*1≤_;omega⟩
    · exact ⟨hb,by have:ps d+b*6≤(tp d).length:=this;show b*3≤_;omega⟩
  · rw [u0 hd,List.length_drop]
    refine ⟨by have:=(hts.le d hd).2;omega,fun i hi=>?_⟩
    rw [List.getD_eq_getElem?_getD,List.getElem?_drop,← List.getD_eq_getElem?_getD]
    exact (hlt d hd).get hp _
  · rw [hq d hd,eE] at hk
    rw [hq d hd,en hk]
    exact Jp hp (hlt d hd) (h1 d hd) hk
/-- one number -/
theorem E3 {w:ab} [NeZero w.S.P] {n t c:Nat} {res:bv} {x7:Int × (List (List ao)) × (List aA)} (s:Sc w n t) (F:Fm w.S.P n t c res) (hn:n≤7) (hc:c≤10) {sec:Nat→Nat→Fin w.S.P} (hs:∀ d,d < n→∀ k,k < c→tQ w n t (shr res n d k) (sec d k)) {H:List (List Nat)} {e:Int} {g:Nat} (hH:H.length=g) (hr:∀ i,i < g→(H.getD i []).length=n∧Lt w.S.P (H.getD i []))
    {k i:Nat} (hk:k < c) (hi:i < g) {l:List (List (List Nat))} (hl:l.length≤1000):∃ a,eD w (res,x7) (H,e) k i l=some (l++[a])∧tQ w n t a (sm n fun d=>o w.S.P ((H.getD i []).getD d 0)*sec d k):=by
  have hp:=s.sup
  have h4:=s.n4
  have h3:=s.t3
  obtain ⟨r1,r2⟩:=hr i hi
  unfold eD
  simp only
  rw [ix [] (by omega),bS,r1,Nat.sub_zero]
  generalize H.getD i []=h at *
  obtain ⟨L,eL,l1,l2⟩:=bj (body:=fun k5 (st:(List (List (List Nat))))=>gu w (res,x7) k h k5 st) (fun q L=>L.length=q∧∀ d,d < q→tQ w n t (L.getD d []) (o w.S.P (h.getD d 0)*sec d k)) (rem:=n) (k:=0) (s:=[]) ⟨rfl,fun d hd=>by omega⟩ (fun q L _ hq ⟨l1,l2⟩=>by
    have hqn:q < n:=by omega
    have e1:((q:Nat):Int)+1=((q+1:Nat):Int):=by omega
    obtain ⟨a,ea,A⟩:=tQ.scale hp (by omega) (by omega) (hs q hqn k hk) (r2.get hp.pos q)
    unfold gu
    simp only
    rw [ix 0 (by omega),bS,bd (by omega) (by omega),bS,e1,Hh F (by omega) hc hqn hk,bS,ea,bS,aO (by simp only [List.length_cons,List.length_nil];omega) (by simp only [List.length_cons,List.length_nil];omega),bS]
    refine ⟨_,rfl,by rw [List.length_append,l1];rfl,fun d hd=>?_⟩
    by_cases gg:d < q
    · rw [da (by omega)];exact l2 d gg
    · have:d=q:=by omega
      subst this
      rw [eG (by omega)];exact A)
  rw [Nat.zero_add] at l1 l2
  obtain ⟨m,rfl⟩:∃ m,n=m+1:=⟨n - 1,by omega⟩
  have hcut:(L.drop (1:Int).toNat).take (((L.length:Nat):Int).toNat - (1:Int).toNat)=L.drop 1:=by
    rw [Int.toNat_natCast]
    show (L.drop 1).take (L.length - 1)=_
    rw [List.take_of_length_le (by rw [List.length_drop];exact Nat.le_refl _)]
  obtain ⟨z,ez,Z⟩:=El hp (by omega) (by omega) (l2 0 (by omega)) (l:=L.drop 1) (m:=m) (by rw [List.length_drop,l1];rfl) (z:=fun d=>o w.S.P (h.getD (d+1) 0)*sec (d+1) k) (fun d hd=>by
    have:(L.drop 1).getD d []=L.getD (d+1) []:=by rw [List.getD_eq_getElem?_getD,List.getElem?_drop,← List.getD_eq_getElem?_getD,Nat.add_comm]
    rw [this];exact l2 (d+1) (by omega))
  rw [eL,bS,ix [] (by omega),bS,gP (by omega) (by omega) (by omega),bS,hcut,ez,bS,aO (by simp only [List.length_cons,List.length_nil];omega) (by simp only [List.length_cons,List.length_nil];omega),bS]
  exact ⟨z,rfl,by rw [vM];exact Z⟩
theorem GX {t:Nat} {f r:List Nat} (ht:t=1 ∨ t=2) (hf:f.length=t+1) (hr:r.length=t*(t+1) / 2):(mx f r).getD 0 []=f:=by
  rcases ht with rfl | rfl
  · match f,hf with
    | [a,b],_=>match r,hr with
      | [c],_=>unfold mx;rw [DY];rfl
  · match f,hf with
    | [a,b,c],_=>match r,hr with
      | [d,e,g],_=>unfold mx;rw [DZ];rfl
/-- random sharings -/
theorem G6 {net:au} {n t m B:Nat} [NeZero net.zw.S.P] (s:Sc net.zw n t) (ht:t=1 ∨ t=2) (hn:n≤7) (hm:0 < m) (hm7:m≤7) {tp:Nat→List Nat} {ps:Nat→Nat} (hts:z8 n net.ap tp ps) (h:∀ d,d < n→ps d+(m+(n - t - 1)) / (n - t)*(t+1+t*(t+1) / 2)≤(tp d).length) (hlt:∀ d,d < n→Lt net.zw.S.P (tp d)) (hv:VB n B net.av) (hB:B≤300) (hr:0≤net.ah∧net.ah≤700) :
    ∃ (out:List (List (List Nat))) (views:List (List ao)) (T:List aA) (H:List (List Nat)) (sec:Nat→Nat→Fin net.zw.S.P),dt net ((m:Nat):Int)=some (out,net.ah+7,views,T)∧out.length=m∧(∀ i,i < m→tQ net.zw n t (out.getD i []) (sm n fun d=>o net.zw.S.P ((H.getD (i % (n - t)) []).getD d 0)*sec d (i / (n - t))))∧VB n (B+7*n) views∧dZ net.zw.S.P ((n - t:Nat):Int) ((n:Nat):Int)=some (H,0)∧(net.zw.aa=[]→∀ d,d < n→∀ k,k < (m+(n - t - 1)) / (n - t)→sec d k=o net.zw.S.P ((tp d).getD (ps d+k*(t+1)) 0)):=by
  obtain ⟨w,round,v0,T0⟩:=net
  simp only at *
  have hp:=s.sup
  have hlt0:=hp.lt
  have h3:=s.t3
  have h4:=s.n4
  have hg:n - t=3 ∨ n - t=4 ∨ n - t=5 ∨ n - t=6:=by omega
  have e2:((n:Nat):Int) - ((t:Nat):Int)=((n - t:Nat):Int):=by omega
  have eb:=y7 (s:=w.S) s.N s.T (show t < n by omega) (show n≤100 by omega) (show m≤100 by omega)
  have hb1:(m+(n - t - 1)) / (n - t)≤3:=by rcases hg with g | g | g | g <;> rw [g] <;> omega
  have hb2:m≤(m+(n - t - 1)) / (n - t)*(n - t):=by rcases hg with g | g | g | g <;> rw [g] <;> omega
  generalize (m+(n - t - 1)) / (n - t)=b at *
  obtain ⟨Q,hql,hd0⟩:=Jo hp.pos ht (by omega) hts h hlt
  obtain ⟨T1,eT1,tT1⟩:=Ee (net:=⟨w,round,v0,T0⟩) s (by omega) (by omega) hn hts hd0
  obtain ⟨res,v1,T2,eS,tT2,R,hv1,C,_⟩:=D8 (net:=⟨w,round,v0,T1⟩) s ht hn Q tT1 hv (by omega) ⟨hr.1,by show round≤800;omega⟩
  simp only at eS R hv1 C eT1
  have F:=Lq.fm R hql
  obtain ⟨H,eH,H1,H2,_⟩:=yv hp (r:=n - t) (n:=n) (by omega) (by omega) (by omega) hn
  have hex:∀ d k,∃ z,d < n→k < b→tQ w n t (shr res n d k) z∧(w.aa=[]→z=o w.S.P ((tp d).getD (ps d+k*(t+1)) 0)):=fun d k=>by
    by_cases g:d < n∧k < b
    · by_cases hdv:w.aa=[]
      · have hk':k < ((G7 n t b tp ps).getD d []).length:=by rw [hql d g.1];exact g.2
        have hM:=vc hp.pos ht Q g.1 hk'
        have A:=tQ.rows s (by omega) hM.2.1 hM.2.2 (a:=shr res n d k) A3 (fun i hi=>by
          rw [si hi]
          exact R.ok d g.1 (.inr hdv) i hi (.inr hdv) k hk')
        have hq:((G7 n t b tp ps).getD d []).getD k []=DT (tp d) (ps d) t k:=by
          unfold G7;rw [en g.1,en g.2]
        rw [y3 hk',GX ht (Q.w d g.1 k hk').1 (xE (Q.many d g.1).2 hk'),hq] at A
        refine ⟨_,fun _ _=>⟨A,fun _=>?_⟩⟩
        unfold DT
        rw [List.getD_eq_getElem?_getD,List.getElem?_take_of_lt (by omega),List.getElem?_drop,← List.getD_eq_getElem?_getD,Nat.add_zero]
      · obtain ⟨z,Z⟩:=Com.std s C F hql g.1 g.2
        exact ⟨z,fun _ _=>⟨Z,fun h=>absurd h hdv⟩⟩
    · exact ⟨0,fun h1 h2=>absurd ⟨h1,h2⟩ g⟩
  have hsec:=fun d k=>Classical.choose_spec (hex d k)
  generalize hse:(fun d k=>Classical.choose (hex d k))=sec at *
  have hdv:w.aa=[]→∀ d,d < n→∀ k,k < b→sec d k=o w.S.P ((tp d).getD (ps d+k*(t+1)) 0):=fun h d hd k hk=>by
    rw [← hse];exact (hsec d k hd hk).2 h
  have hsec:∀ d,d < n→∀ k,k < b→tQ w n t (shr res n d k) (sec d k):=fun d hd k hk=>by
    rw [← hse];exact (hsec d k hd hk).1
  have e1:max 0 ((b:Nat):Int).toNat=b:=by omega
  unfold dt bQ
  rw [eF (by omega),cF,bS,eb,bS,s.N,cV (by omega) (by omega) (by omega) (by omega),bS,Int.toNat_natCast,List.length_replicate,Nat.sub_zero,eT1,bS]
  simp only
  rw [eS,bS,s.T,cN (by omega) (by omega),bS,e2,eH,bS,e1,bZ (by omega),bS,Nat.sub_zero]
  have hbg:b*(n - t)≤18:=Nat.le_trans (Nat.mul_le_mul hb1 (show n - t≤6 by omega)) (by omega)
  obtain ⟨L,eL,l1,l2⟩:=bj (body:=fun k3 (st:(List (List (List Nat))))=>gt w (res,round+7,v1,T2) (H,0) k3 st) (fun k L=>L.length=k*(n - t)∧∀ i,i < L.length→tQ w n t (L.getD i []) (sm n fun d=>o w.S.P ((H.getD (i % (n - t)) []).getD d 0)*sec d (i / (n - t)))) (rem:=b) (k:=0) (s:=[]) ⟨by simp,fun i hi=>by simp at hi⟩ (fun k L _ hk ⟨l1,l2⟩=>by
    have hkb:k < b:=by omega
    have hkg:k*(n - t)+(n - t)≤b*(n - t):=by rw [← Nat.succ_mul];exact Nat.mul_le_mul_right (n - t) hkb
    unfold gt
    simp only
    rw [H1,Nat.sub_zero]
    obtain ⟨M,eM,m1,m2⟩:=bj (body:=fun k4 (st:(List (List (List Nat))))=>eD w (res,round+7,v1,T2) (H,0) k k4 st) (fun q M=>M.length=k*(n - t)+q∧∀ i,i < M.length→tQ w n t (M.getD i []) (sm n fun d=>o w.S.P ((H.getD (i % (n - t)) []).getD d 0)*sec d (i / (n - t)))) (rem:=n - t) (k:=0) (s:=L) ⟨l1,l2⟩ (fun q M _ hq ⟨m1,m2⟩=>by
      obtain ⟨a,ea,A⟩:=E3 (x7:=(round+7,v1,T2)) (e:=0) s F hn (by omega) hsec H1 H2 hkb (show q < n - t by omega) (l:=M) (by omega)
      refine ⟨_,ea,by rw [List.length_append,m1];rfl,fun i hi=>?_⟩
      rw [List.length_append] at hi
      have hi:i < M.length+1:=hi
      by_cases g:i < M.length
      · rw [da g];exact m2 i g
      · have hqg:q < n - t:=by omega
        have hi':i=k*(n - t)+q:=by omega
        have f1:i / (n - t)=k:=by rw [hi',Nat.mul_comm,Nat.mul_add_div (by omega),Nat.div_eq_of_lt hqg,Nat.add_zero]
        have f2:i % (n - t)=q:=by rw [hi',Nat.mul_comm,Nat.mul_add_mod,Nat.mod_eq_of_lt hqg]
        rw [eG (by omega),f1,f2];exact A)
    rw [eM,bS]
    exact ⟨M,rfl,by rw [m1,Nat.zero_add,Nat.succ_mul],m2⟩)
  rw [Nat.zero_add] at l1
  rw [eL,bS,gP (by omega) (by omega) (by rw [l1];omega),bS]
  refine ⟨_,v1,T2,H,sec,rfl,?_,fun i hi=>?_,hv1,rfl,hdv⟩
  · rw [Int.toNat_natCast,List.length_take,List.length_drop,l1]
    show min (m - 0) (b*(n - t) - 0)=m
    omega
  · have:((L.drop (0:Int).toNat).take (((m:Nat):Int).toNat - (0:Int).toNat)).getD i []=L.getD i []:=by
      rw [Int.toNat_natCast]
      show ((L.drop 0).take (m - 0)).getD i []=_
      rw [List.drop_zero,List.getD_eq_getElem?_getD,List.getElem?_take_of_lt (by omega),← List.getD_eq_getElem?_getD]
    rw [this]
    exact l2 i (by omega)
theorem wV {s:aL} {n t m:Nat} (hN:s.N=(n:Int)) (hT:s.T=(t:Int)) (hg:n - t=3 ∨ n - t=4 ∨ n - t=5 ∨ n - t=6) (hn:n≤7) (hm:m≤7):il s ((m:Nat):Int)=some (((m+(n - t - 1)) / (n - t):Nat):Int):=by
  have e2:((n:Nat):Int) - ((t:Nat):Int)=((n - t:Nat):Int):=by omega
  unfold il
  obtain ⟨r,e,h⟩:=iR (step:=fun (st:Int)=>i9 s ((m:Nat):Int) st) (fun st=>∃ k,st=((k:Nat):Int)∧k*(n - t) < m+(n - t)) (fun r=>r=(((m+(n - t - 1)) / (n - t):Nat):Int)) (fun st=>20 - st.toNat) (fun st ⟨k,hst,hk⟩=>by
    subst hst
    have c1:((k:Nat):Int)*((n - t:Nat):Int)=((k*(n - t):Nat):Int):=by rw [Int.natCast_mul]
    have hk20:k < 20:=by rcases hg with g | g | g | g <;> rw [g] at hk <;> omega
    have hkg:k*(n - t)≤20*6:=Nat.mul_le_mul (by omega) (by omega)
    unfold i9
    rw [hN,hT,cN (by omega) (by omega),bS,e2,fk (by omega) (by omega),bS,c1]
    by_cases g:k*(n - t) < m
    · rw [dT (by omega),cT,bd (by omega) (by omega),bS]
      exact ⟨_,rfl,⟨k+1,rfl,by rw [Nat.succ_mul];omega⟩,by omega⟩
    · rw [dF (by omega),cF]
      refine ⟨_,rfl,?_⟩
      show ((k:Nat):Int)=_
      congr 1
      rcases hg with g1 | g1 | g1 | g1 <;> rw [g1] at hk g ⊢ <;> omega) (s:=((0:Nat):Int)) ⟨0,rfl,by omega⟩ (by omega)
  rw [e,bS,h]
theorem BB {w:ab} {m:Int} {most:Nat} (h4:most≤7) (hK:∀ x ∈ w.aa,x.K < 18446744073709551616):∃ b,jU w m ((most:Nat):Int)=some b∧(b=true→∃ n t k,Va w n t∧dc w=some true∧n≤7∧(t=1 ∨ t=2)∧m=((k:Nat):Int)∧k≤most∧∀ i,i < n→(k+(n - t - 1)) / (n - t)*(t+1+t*(t+1) / 2)≤(w.ax.getD i []).length):=by
  unfold jU
  obtain ⟨b,eb,hb⟩:=Fa (w:=w) (lies:=((8:Nat):Int)) (words:=((100:Nat):Int)) hK (by omega) (by omega)
  rw [eb,bS]
  cases b
  · rw [nF,cT,bS,cT];exact ⟨_,rfl,fun h=>by cases h⟩
  · obtain ⟨n,t,v,hv⟩:=hb rfl
    have h13:=v.n13
    have t1:=v.t1
    have t3:=v.t3
    have n4:=v.n4
    rw [nT,cF]
    by_cases g1:m < 0
    · rw [dT g1,cT,bS,cT];exact ⟨_,rfl,fun h=>by cases h⟩
    · rw [dF g1,cF]
      by_cases g2:m > ((most:Nat):Int)
      · rw [dT g2,cT,bS,cT];exact ⟨_,rfl,fun h=>by cases h⟩
      · rw [dF g2,cF,v.N,bS]
        by_cases g3:n≤7
        · obtain ⟨k,rfl⟩:=Int.eq_ofNat_of_zero_le (show 0≤m by omega)
          have ht:t=1 ∨ t=2:=by omega
          have hk:k≤most:=by omega
          have hg:n - t=3 ∨ n - t=4 ∨ n - t=5 ∨ n - t=6:=by omega
          have etl:im w.S ((k:Nat):Int)=some (((k+(n - t - 1)) / (n - t)*(t+1+t*(t+1) / 2):Nat):Int):=by
            have hb3:(k+(n - t - 1)) / (n - t)≤3:=by rcases hg with g | g | g | g <;> rw [g] <;> omega
            unfold im lW
            rw [wV v.N v.T hg g3 (by omega),bS]
            generalize (k+(n - t - 1)) / (n - t)=b at *
            rw [v.T]
            rcases ht with rfl | rfl
            · rw [bd (by omega) (by omega),bS,bS,fk (by omega) (by omega),bS]
              show (some (1:Int) >>= _) >>= _=_
              rw [bS,bS,bd (by omega) (by omega),bS,fk (by omega) (by omega),bS]
              congr 1
            · rw [bd (by omega) (by omega),bS,bS,fk (by omega) (by omega),bS]
              show (some (3:Int) >>= _) >>= _=_
              rw [bS,bS,bd (by omega) (by omega),bS,fk (by omega) (by omega),bS]
              congr 1
          rw [dF (by omega),cF,v.tl,Nat.sub_zero]
          generalize hneed:(k+(n - t - 1)) / (n - t)*(t+1+t*(t+1) / 2)=need at *
          rcases DX (body:=fun k1 (st:Unit)=>kg w ((k:Nat):Int) k1) (n:=n) (fun i=>need≤(w.ax.getD i []).length) (fun i hi=>by
            unfold kg
            rw [ix [] (by rw [v.tl];exact hi),bS,etl,bS]
            by_cases g:need≤(w.ax.getD i []).length
            · rw [dF (by omega),cF];exact .inr ⟨rfl,g⟩
            · rw [dT (by omega),cT];exact .inl rfl) with e | ⟨e,h⟩
          · rw [e,bS,oF];exact ⟨_,rfl,fun h=>by cases h⟩
          · rw [e,bS,oG];exact ⟨_,rfl,fun _=>⟨n,t,k,v,hv,g3,ht,rfl,hk,fun i hi=>by rw [hneed];exact h i hi⟩⟩
        · rw [dT (by omega),cT];exact ⟨_,rfl,fun h=>by cases h⟩
theorem KZ {w:ab} {n t:Nat} (v:Va w n t):z8 n (w.ax.map fun l=>(⟨l,0⟩:aA)) (fun i=>w.ax.getD i []) (fun _=>0):=⟨by simp [v.tl],fun i hi=>by
  have:i < w.ax.length:=by rw [v.tl];exact hi
  simp [List.getD_eq_getElem?_getD,this],fun i hi=>⟨Nat.zero_le _,v.ts i hi⟩⟩
theorem Mf {n:Nat}:VB n 0 (List.replicate n []):=⟨by simp,fun j hj=>by simp [List.getD_eq_getElem?_getD,hj]⟩
end Pu

/- Plain laws of chapter 24: every choice of numbers is reached. -/
set_option linter.unusedVariables false
namespace Pu
open Gw Gl Sp
section
variable {p:Nat} [NeZero p]
/-- values at distinct places are a polynomial's -/
theorem BH (hp:fM p) {n:Nat} {X Y:Nat→Fin p} (hX:∀ i j,i < n→j < n→i≠j→X i≠X j):∃ f:List (Fin p),f.length≤n∧∀ i,i < n→dy f (X i)=Y i:=by
  have hd:∀ g,g < n→pd X g (X g) n≠0:=fun g hg=>wz hp fun j hj hjg e=>hX g j hg hj (fun e=>hjg e.symm) (by grind)
  have hi:∀ g,∃ b,g < n→b*pd X g (X g) n=1:=fun g=>by
    by_cases hg:g < n
    · obtain ⟨b,hb⟩:=Kj hp (hd g hg)
      exact ⟨b,fun _=>hb⟩
    · exact ⟨0,fun h=>absurd h hg⟩
  obtain ⟨inv,hinv⟩:∃ inv:Nat→Fin p,∀ g,g < n→inv g*pd X g (X g) n=1:=⟨fun g=>Classical.choose (hi g),fun g hg=>Classical.choose_spec (hi g) hg⟩
  refine ⟨xv (fun g=>Y g*inv g) (fun g=>xO X g n) n,vy fun k hk=>by
    have:=uY (X:=X) (i:=k) (n:=n)
    rw [if_pos hk] at this;omega,fun i hi=>?_⟩
  have e1:=vN (n:=n) hi (fun _=>(0:Fin p)) (fun k=>Y k*inv k*pd X k (X i) n) (Y i) (by
    have:=hinv i hi
    have e:Y i*inv i*pd X i (X i) n=Y i*(inv i*pd X i (X i) n):=by grind
    show Y i*inv i*pd X i (X i) n=Y i+0
    rw [e,this];grind) (fun j hj hji=>by
    show Y j*inv j*pd X j (X i) n=0
    rw [tx (X:=X) (i:=j) (j:=i) (fun e=>hji e.symm) hi];grind)
  have e2:sm n (fun _=>(0:Fin p))=0:=pj fun _ _=>rfl
  rw [tq]
  have e3:sm n (fun k=>Y k*inv k*dy (xO X k n) (X i))=sm n (fun k=>Y k*inv k*pd X k (X i) n):=bO fun k _=>by rw [pc]
  rw [e3,e1,e2];grind
/-- what the matrix does to a polynomial's values -/
theorem BF (hp:fM p) {n:Nat} (h7:n≤13) {h:List Nat} {y:Fin p} (hh:∀ k,k < n→o p (h.getD k 0)*pd (fun j=>o p (1+j)) k (o p (1+k)) n=pd (fun j=>o p (1+j)) k y n) {f:List (Fin p)} (hf:f.length≤n):dy f y=sm n fun d=>o p (h.getD d 0)*dy f (o p (1+d)):=by
  have hlt:=hp.lt
  have hX:∀ i j,i < n→j < n→i≠j→o p (1+i)≠o p (1+j):=fun i j hi hj h e=>by
    have:=pa (p:=p) (by omega) (by omega) e;omega
  obtain ⟨a,ha⟩:=MA hp (X:=fun j=>o p (1+j)) hX y
  rw [ha f hf]
  refine bO fun k hk=>?_
  have hn:pd (fun j=>o p (1+j)) k (o p (1+k)) n≠0:=wz hp fun j hj hjk e=>hX k j hk hj (fun e=>hjk e.symm) (by grind)
  have h1:=ha (xO (fun j=>o p (1+j)) k n) (by
    have:=uY (X:=fun j=>o p (1+j)) (i:=k) (n:=n)
    rw [if_pos hk] at this;omega)
  rw [pc] at h1
  have e1:=vN (n:=n) hk (fun _=>(0:Fin p)) (fun g=>a g*dy (xO (fun j=>o p (1+j)) k n) (o p (1+g))) (a k*pd (fun j=>o p (1+j)) k (o p (1+k)) n) (by
    show a k*dy (xO (fun j=>o p (1+j)) k n) (o p (1+k))=_+0
    rw [pc];grind) (fun j hj hjk=>by
    show a j*dy (xO (fun j=>o p (1+j)) k n) (o p (1+j))=0
    rw [pc]
    have:=tx (X:=fun j=>o p (1+j)) (i:=k) (j:=j) hjk hj
    rw [this];grind)
  have e2:sm n (fun _=>(0:Fin p))=0:=pj fun _ _=>rfl
  rw [e1,e2,← hh k hk] at h1
  have h2:(o p (h.getD k 0) - a k)*pd (fun j=>o p (1+j)) k (o p (1+k)) n=0:=by grind
  rcases hp.nz _ _ h2 with h3 | h3
  · have:o p (h.getD k 0)=a k:=by grind
    rw [this]
  · exact absurd h3 hn
end
section
variable {w:ab} {n t:Nat}
theorem zU {R:Type} [Lean.Grind.CommRing R] (F:Nat→R):∀ {n:Nat},sm n F=sm (j0 w n).length (fun q=>F ((j0 w n).getD q 0))+sm n (fun d=>if (((d:Nat):Int)+1) ∉ w.af then 0 else F d)
  | 0=>by
    have:(j0 w 0).length=0:=rfl
    rw [this];simp only [sm];grind
  | n+1=>by
    have ih:=zU F (n:=n)
    rw [sm,sm,kX,ih]
    by_cases g:(((n:Nat):Int)+1) ∉ w.af
    · rw [if_pos g,if_pos g]
      have hl:(j0 w n++[n]).length=(j0 w n).length+1:=by rw [List.length_append];rfl
      have e1:sm ((j0 w n).length+1) (fun q=>F ((j0 w n++[n]).getD q 0))=sm (j0 w n).length (fun q=>F ((j0 w n).getD q 0))+F n:=by
        rw [sm,eG rfl]
        rw [bO (g:=fun q=>F ((j0 w n).getD q 0)) fun q hq=>by rw [da hq]]
      rw [hl,e1];grind
    · rw [if_neg g,if_neg g,List.append_nil];grind
theorem xr:∀ {n q:Nat},q < (j0 w n).length→(j0 w ((j0 w n).getD q 0)).length=q
  | 0,q,h=>by simp [j0] at h
  | n+1,q,h=>by
    rw [kX] at h ⊢
    by_cases g:(((n:Nat):Int)+1) ∉ w.af
    · rw [if_pos g] at h ⊢
      rw [List.length_append] at h
      have h:q < (j0 w n).length+1:=h
      by_cases g2:q < (j0 w n).length
      · rw [da g2];exact xr g2
      · have:q=(j0 w n).length:=by omega
        rw [eG this,this]
    · rw [if_neg g,List.append_nil] at h ⊢
      exact xr h
theorem xx {l:List Int} (h:∀ i,0 < i→i < l.length→l.getD (i - 1) 0 < l.getD i 0) {i:Nat}:∀ {j:Nat},i < j→j < l.length→l.getD i 0 < l.getD j 0
  | 0,h1,_=>by omega
  | j+1,h1,h2=>by
    have h3:=h (j+1) (by omega) h2
    rw [Nat.add_sub_cancel] at h3
    by_cases g:i=j
    · rw [g];exact h3
    · have:=xx h (i:=i) (j:=j) (by omega) (by omega);omega
theorem C7 (v:Va w n t) (hc:w.af.length=t):(j0 w n).length=n - t:=by
  have h1:=AM v.toSc
  have h3:=v.t3
  have h2:=Il (l:=List.range n) (f:=fun i=>decide ((((i:Nat):Int)+1) ∉ w.af))
  rw [List.length_range] at h2
  have h4:w.af.length≤(((List.range n).filter fun i=>!decide ((((i:Nat):Int)+1) ∉ w.af)).map fun i=>((i:Nat):Int)+1).length:=by
    refine u6 ?_ fun x hx=>?_
    · rw [List.Nodup,List.pairwise_iff_getElem]
      intro i j hi hj hij e
      have:=xx v.ord hij hj
      rw [List.getD_eq_getElem?_getD,List.getD_eq_getElem?_getD,List.getElem?_eq_getElem hi,List.getElem?_eq_getElem hj] at this
      have this:w.af[i] < w.af[j]:=this
      omega
    · obtain ⟨x1,x2⟩:=v.cr x hx
      have e:(((x - 1).toNat:Nat):Int)+1=x:=by omega
      refine List.mem_map.2 ⟨(x - 1).toNat,List.mem_filter.2 ⟨List.mem_range.2 (by omega),?_⟩,e⟩
      rw [e];simpa using hx
  rw [List.length_map] at h4
  show ((List.range n).filter fun i=>decide ((((i:Nat):Int)+1) ∉ w.af)).length=_
  have h5:((List.range n).filter fun i=>decide ((((i:Nat):Int)+1) ∉ w.af)).length=(j0 w n).length:=rfl
  omega
variable [NeZero w.S.P]
/-- one row of the honest parties' part -/
theorem zN (s:Sc w n t) (hn:n≤7) {H:List (List Nat)} {e:Int} {i:Nat} (hi:i < H.length) (h1:(H.getD i []).length=n) (h2:Lt w.S.P (H.getD i [])) (hT:w.ax.length=n) (hw:∀ d,d < n→0 < (w.ax.getD d []).length∧Lt w.S.P (w.ax.getD d [])) {x:Nat} (hx:x < w.S.P) :
    ∃ y,dO (fun k2 (st:(List Nat) × Nat)=>bq w (H,e) i k2 st.1 st.2) n 0 (([]:List Nat),x)=some ((j0 w n).map (fun q=>(H.getD i []).getD q 0),y)∧y < w.S.P∧o w.S.P y=o w.S.P x - sm n (fun d=>if (((d:Nat):Int)+1) ∉ w.af then 0 else o w.S.P ((H.getD i []).getD d 0)*o w.S.P ((w.ax.getD d []).getD 0 0)):=by
  have hp:=s.sup
  obtain ⟨r,er,r1,r2,r3⟩:=bj (body:=fun k2 (st:(List Nat) × Nat)=>bq w (H,e) i k2 st.1 st.2)
    (fun k st=>st.1=(j0 w k).map (fun q=>(H.getD i []).getD q 0)∧st.2 < w.S.P∧o w.S.P st.2=o w.S.P x - sm k (fun d=>if (((d:Nat):Int)+1) ∉ w.af then 0 else o w.S.P ((H.getD i []).getD d 0)*o w.S.P ((w.ax.getD d []).getD 0 0))) (rem:=n) (k:=0) (s:=([],x))
    ⟨rfl,hx,by simp only [sm];grind⟩ (fun k st _ hk ⟨r1,r2,r3⟩=>by
      obtain ⟨l,y⟩:=st
      simp only at r1 r2 r3
      have hkn:k < n:=by omega
      have:=zF (w:=w) (k:=k)
      unfold bq
      rw [bd (by omega) (by omega),bS,uh,bS]
      simp only
      by_cases g:(((k:Nat):Int)+1) ∉ w.af
      · rw [dT g,cT,ix [] hi,bS,ix 0 (by omega),bS,aO (by rw [r1,List.length_map];simp only [List.length_cons,List.length_nil];omega) (by rw [r1,List.length_map];simp only [List.length_cons,List.length_nil];omega),bS]
        refine ⟨_,rfl,?_,r2,?_⟩
        · simp only
          rw [r1,kX,if_pos g,List.map_append];rfl
        · simp only
          rw [r3,sm,if_pos g];grind
      · obtain ⟨t1,t2⟩:=hw k hkn
        rw [dF g,cF,ix [] hi,bS,ix 0 (by omega),bS,ix [] (by omega),bS,ix 0 t1,bS,jI hp (h2.get hp.pos k) (t2.get hp.pos 0),bS,vO hp r2 (Nat.mod_lt _ hp.pos),bS]
        refine ⟨_,rfl,?_,Nat.mod_lt _ hp.pos,?_⟩
        · simp only
          rw [r1,kX,if_neg g,List.append_nil]
        · simp only
          rw [vB (Nat.mod_lt _ hp.pos),kK,nZ,r3,sm,if_neg g];grind)
  obtain ⟨l,y⟩:=r
  simp only at r1 r2 r3
  rw [Nat.zero_add] at r1 r3
  rw [er,r1]
  exact ⟨y,rfl,r2,r3⟩
end
end Pu

/- The law of chapter 24: every choice of numbers is reached. -/
set_option linter.unusedVariables false
namespace Pu
open Gw Gl Sp
theorem y8 {p:Nat} {l:List Nat} {most:Nat} (hm:most≤100):∃ b,jp p l ((most:Nat):Int)=some b∧(b=true→Lt p l):=by
  unfold jp
  obtain ⟨r,e,h⟩:=iR (step:=fun (st:Int)=>jL p l ((most:Nat):Int) st) (fun st=>∃ k,k≤most+1∧k≤l.length∧st=((k:Nat):Int)∧∀ j,j < k→l.getD j 0 < p) (fun r=>r=.inl false ∨ (r=.inr ()∧(l.length≤most→Lt p l))) (fun st=>most+1 - st.toNat) (fun st ⟨k,k1,k2,hst,k3⟩=>by
    subst hst
    unfold jL
    by_cases g1:k < l.length
    · by_cases g2:k≤most
      · rw [dT (by omega),cT,dT (by omega),bS,cT,aQ 0 (by omega) (by omega),bS,Int.toNat_natCast]
        by_cases g3:l.getD k 0 < p
        · rw [dF (by omega),cF,bd (by omega) (by omega),bS]
          refine ⟨_,rfl,⟨k+1,by omega,by omega,rfl,fun j hj=>?_⟩,by omega⟩
          by_cases g:j=k
          · subst g;exact g3
          · exact k3 j (by omega)
        · rw [dT (by omega),cT]
          exact ⟨_,rfl,.inl rfl⟩
      · rw [dT (by omega),cT,dF (by omega),bS,cF]
        exact ⟨_,rfl,.inr ⟨rfl,fun h=>by omega⟩⟩
    · rw [dF (by omega),cF,bS,cF]
      exact ⟨_,rfl,.inr ⟨rfl,fun _ j hj=>k3 j (by omega)⟩⟩) (s:=((0:Nat):Int)) ⟨0,by omega,by omega,rfl,fun j hj=>by omega⟩ (by omega)
  rw [e,bS]
  rcases h with rfl | ⟨rfl,h⟩
  · rw [Mc];exact ⟨_,rfl,fun h=>by cases h⟩
  · rw [Md];exact ⟨_,rfl,fun hb=>h (by have:=of_decide_eq_true hb;omega)⟩
section
variable {w:ab} {n t:Nat} [NeZero w.S.P]
/-- the honest parties' part of the matrix -/
def qU (w:ab) (H:List (List Nat)) (n g:Nat):List (List Nat):=(List.range g).map fun i=>(j0 w n).map fun q=>(H.getD i []).getD q 0
theorem DF (s:Sc w n t) (hn:n≤7) {H:List (List Nat)} {e:Int} {g:Nat} (hH:H.length=g) (hg:g≤7) (h1:∀ i,i < g→(H.getD i []).length=n∧Lt w.S.P (H.getD i [])) (hT:w.ax.length=n) (hw:∀ d,d < n→0 < (w.ax.getD d []).length∧Lt w.S.P (w.ax.getD d [])) {want:List Nat} (hwl:want.length=g) (hwp:Lt w.S.P want) :
    ∃ left,dO (fun k1 (st:(List (List Nat)) × (List Nat))=>bp w want (H,e) k1 st.1 st.2) g 0 (([]:List (List Nat)),([]:List Nat))=some (qU w H n g,left)∧left.length=g∧∀ i,i < g→left.getD i 0 < w.S.P∧o w.S.P (left.getD i 0)=o w.S.P (want.getD i 0) - sm n (fun d=>if (((d:Nat):Int)+1) ∉ w.af then 0 else o w.S.P ((H.getD i []).getD d 0)*o w.S.P ((w.ax.getD d []).getD 0 0)):=by
  have e0:max 0 ((n:Int)).toNat=n:=by omega
  obtain ⟨r,er,r1,r2,r3⟩:=bj (body:=fun k1 (st:(List (List Nat)) × (List Nat))=>bp w want (H,e) k1 st.1 st.2)
    (fun k st=>st.1=qU w H n k∧st.2.length=k∧∀ i,i < k→st.2.getD i 0 < w.S.P∧o w.S.P (st.2.getD i 0)=o w.S.P (want.getD i 0) - sm n (fun d=>if (((d:Nat):Int)+1) ∉ w.af then 0 else o w.S.P ((H.getD i []).getD d 0)*o w.S.P ((w.ax.getD d []).getD 0 0))) (rem:=g) (k:=0) (s:=([],[]))
    ⟨rfl,rfl,fun i hi=>by omega⟩ (fun k st _ hk ⟨r1,r2,r3⟩=>by
      obtain ⟨l,y⟩:=st
      simp only at r1 r2 r3
      have hkg:k < g:=by omega
      obtain ⟨z,ez,z1,z2⟩:=zN s hn (e:=e) (show k < H.length by omega) (h1 k hkg).1 (h1 k hkg).2 hT hw (hwp.get s.sup.pos k)
      have hll:l.length=k:=by rw [r1];unfold qU;simp
      unfold bp
      simp only
      rw [ix 0 (by omega),bS,s.N,e0,bZ (by omega),bS,Nat.sub_zero,ez,bS]
      simp only
      rw [aO (by simp only [List.length_cons,List.length_nil];omega) (by simp only [List.length_cons,List.length_nil];omega),bS,aO (by simp only [List.length_cons,List.length_nil];omega) (by simp only [List.length_cons,List.length_nil];omega),bS]
      refine ⟨_,rfl,?_,by simp only [List.length_append];rw [r2];rfl,fun i hi=>?_⟩
      · simp only
        rw [r1];unfold qU
        rw [List.range_succ,List.map_append];rfl
      · simp only
        by_cases gi:i < k
        · rw [da (by omega)];exact r3 i gi
        · have:i=k:=by omega
          subst this
          rw [eG (by omega)];exact ⟨z1,z2⟩)
  obtain ⟨l,y⟩:=r
  simp only at r1 r2 r3
  rw [Nat.zero_add] at r1 r2 r3
  rw [er,r1]
  exact ⟨y,rfl,r2,r3⟩
/-- the part can be inverted where it must -/
theorem Ea (v:Va w n t) (hn:n≤13) (hc:w.af.length=t) {H:List (List Nat)} (hlag:∀ i,i < n - t→∀ k,k < n→o w.S.P ((H.getD i []).getD k 0)*pd (fun j=>o w.S.P (1+j)) k (o w.S.P (1+k)) n=pd (fun j=>o w.S.P (1+j)) k (o w.S.P (n+1+i)) n) {tv want:Nat→Fin w.S.P} :
    ∃ u:Nat→Fin w.S.P,∀ i,i < n - t→sm (j0 w n).length (fun q=>o w.S.P ((H.getD i []).getD ((j0 w n).getD q 0) 0)*u q)=want i - sm n (fun d=>if (((d:Nat):Int)+1) ∉ w.af then 0 else o w.S.P ((H.getD i []).getD d 0)*tv d):=by
  have hp:=v.sup
  have hlt:=hp.lt
  have h3:=v.t3
  let xs:Nat→Nat:=fun q=>if q < n - t then n+1+q else (w.af.getD (q - (n - t)) 0).toNat
  have hcr:∀ q,n - t≤q→q < n→1≤w.af.getD (q - (n - t)) 0∧w.af.getD (q - (n - t)) 0≤n:=fun q h1 h2=>v.cr _ (getD_in (by omega))
  have hxs:∀ i j,i < n→j < n→i≠j→xs i≠xs j:=fun i j hi hj hij=>by
    show (if i < n - t then n+1+i else (w.af.getD (i - (n - t)) 0).toNat)≠(if j < n - t then n+1+j else (w.af.getD (j - (n - t)) 0).toNat)
    by_cases g1:i < n - t
    · rw [if_pos g1]
      by_cases g2:j < n - t
      · rw [if_pos g2];omega
      · rw [if_neg g2];have:=hcr j (by omega) hj;omega
    · rw [if_neg g1]
      have:=hcr i (by omega) hi
      by_cases g2:j < n - t
      · rw [if_pos g2];omega
      · rw [if_neg g2]
        have:=hcr j (by omega) hj
        rcases Nat.lt_or_gt_of_ne hij with c | c
        · have:=xx v.ord (i:=i - (n - t)) (j:=j - (n - t)) (by omega) (by omega);omega
        · have:=xx v.ord (i:=j - (n - t)) (j:=i - (n - t)) (by omega) (by omega);omega
  have hxl:∀ q,q < n→xs q < w.S.P:=fun q hq=>by
    show (if q < n - t then n+1+q else (w.af.getD (q - (n - t)) 0).toNat) < _
    by_cases g1:q < n - t
    · rw [if_pos g1];omega
    · rw [if_neg g1];have:=hcr q (by omega) hq;omega
  obtain ⟨f,f1,f2⟩:=BH hp (n:=n) (X:=fun q=>o w.S.P (xs q)) (Y:=fun q=>if q < n - t then want q else tv (xs q - 1)) (fun i j hi hj hij e=>hxs i j hi hj hij (pa (hxl i hi) (hxl j hj) e))
  have hcor:∀ d,d < n→¬ (((d:Nat):Int)+1) ∉ w.af→dy f (o w.S.P (1+d))=tv d:=fun d hd h=>by
    have hm:=Classical.not_not.1 h
    obtain ⟨q,hq,he⟩:=List.getElem_of_mem hm
    have hqe:w.af.getD q 0=((d:Nat):Int)+1:=by rw [List.getD_eq_getElem?_getD,List.getElem?_eq_getElem hq];exact he
    have hx:xs (n - t+q)=d+1:=by
      show (if n - t+q < n - t then n+1+(n - t+q) else (w.af.getD (n - t+q - (n - t)) 0).toNat)=_
      rw [if_neg (by omega),Nat.add_sub_cancel_left,hqe];omega
    have:=f2 (n - t+q) (by omega)
    rw [hx,if_neg (by omega)] at this
    rw [Nat.add_comm];exact this
  refine ⟨fun q=>dy f (o w.S.P (1+(j0 w n).getD q 0)),fun i hi=>?_⟩
  have h1:=BF hp hn (h:=H.getD i []) (hlag i hi) f1
  have h2:=f2 i (by omega)
  have hx:xs i=n+1+i:=if_pos hi
  rw [hx,if_pos hi] at h2
  rw [h2,zU (w:=w)] at h1
  have h4:sm n (fun d=>if (((d:Nat):Int)+1) ∉ w.af then (0:Fin w.S.P) else o w.S.P ((H.getD i []).getD d 0)*dy f (o w.S.P (1+d)))=sm n (fun d=>if (((d:Nat):Int)+1) ∉ w.af then 0 else o w.S.P ((H.getD i []).getD d 0)*tv d):=bO fun d hd=>by
    by_cases g:(((d:Nat):Int)+1) ∉ w.af
    · rw [if_pos g,if_pos g]
    · rw [if_neg g,if_neg g,hcor d hd g]
  rw [h4] at h1
  rw [h1];grind
end
section
variable {w:ab} {n t:Nat}
/-- the other tapes -/
theorem Ef (s:Sc w n t) {x:List Nat} {e:Int} {W:List (List Nat)} (hW:W.length=n) (hT:w.ax.length=n) (hne:∀ d,d < n→0 < (w.ax.getD d []).length∧(w.ax.getD d []).length≤1000) (hWT:W=w.ax) (hx:(j0 w n).length≤x.length) :
    ∃ tp,dO (fun k3 (st:(List (List Nat)) × Int)=>br w (x,e) k3 st.1 st.2) n 0 (W,((0:Nat):Int))=some (tp,(((j0 w n).length:Nat):Int))∧tp.length=n∧∀ d,d < n→tp.getD d []=if (((d:Nat):Int)+1) ∉ w.af then x.getD (j0 w d).length 0 :: (w.ax.getD d []).drop 1 else w.ax.getD d []:=by
  have h13:=s.n13
  have hmono:∀ k,k < n→(((k:Nat):Int)+1) ∉ w.af→(j0 w k).length < (j0 w n).length:=fun k hk hc=>by
    have h1:(j0 w (k+1)).length=(j0 w k).length+1:=by rw [kX,if_pos hc,List.length_append];rfl
    have h2:∀ m,k+1≤m→(j0 w (k+1)).length≤(j0 w m).length:=fun m hm=>by
      induction m with
      | zero=>omega
      | succ m ih =>
        by_cases g:k+1≤m
        · have:=ih g
          rw [kX (k:=m),List.length_append];omega
        · have:m=k:=by omega
          subst this;exact Nat.le_refl _
    have:=h2 n (by omega)
    omega
  obtain ⟨r,er,r1,r2,r3,r4⟩:=bj (body:=fun k3 (st:(List (List Nat)) × Int)=>br w (x,e) k3 st.1 st.2)
    (fun k st=>st.1.length=n∧(∀ d,d < k→st.1.getD d []=if (((d:Nat):Int)+1) ∉ w.af then x.getD (j0 w d).length 0 :: (w.ax.getD d []).drop 1 else w.ax.getD d [])∧(∀ d,k≤d→st.1.getD d []=w.ax.getD d [])∧st.2=(((j0 w k).length:Nat):Int)) (rem:=n) (k:=0) (s:=(W,((0:Nat):Int)))
    ⟨hW,fun d hd=>by omega,fun d _=>by simp only;rw [hWT],rfl⟩ (fun k st _ hk ⟨r1,r2,r3,r4⟩=>by
      obtain ⟨l,y⟩:=st
      simp only at r1 r2 r3 r4
      have hkn:k < n:=by omega
      obtain ⟨t1,t2⟩:=hne k hkn
      have hk1:=zF (w:=w) (k:=k)
      subst r4
      unfold br
      rw [bd (by omega) (by omega),bS,uh,bS]
      by_cases g:(((k:Nat):Int)+1) ∉ w.af
      · have hm:=hmono k hkn g
        have hcut:((w.ax.getD k []).drop (1:Int).toNat).take ((((w.ax.getD k []).length:Nat):Int).toNat - (1:Int).toNat)=(w.ax.getD k []).drop 1:=by
          rw [Int.toNat_natCast]
          show ((w.ax.getD k []).drop 1).take ((w.ax.getD k []).length - 1)=_
          rw [List.take_of_length_le (by rw [List.length_drop];exact Nat.le_refl _)]
        rw [dT g,cT,aQ 0 (by omega) (by simp only;omega),bS,ix [] (by omega),bS,gP (by omega) (by omega) (by omega),bS,hcut,aO (by rw [List.length_drop];simp only [List.length_cons,List.length_nil];omega) (by rw [List.length_drop];simp only [List.length_cons,List.length_nil];omega),bS,ix [] (by omega),bS,bS,bd (by omega) (by omega),bS]
        refine ⟨_,rfl,by simp only [List.length_set];exact r1,fun d hd=>?_,fun d hd=>?_,?_⟩
        · simp only
          rw [aN (by omega)]
          by_cases gd:k=d
          · subst gd;rw [if_pos rfl,if_pos g,Int.toNat_natCast];rfl
          · rw [if_neg gd];exact r2 d (by omega)
        · simp only
          rw [aN (by omega),if_neg (by omega)];exact r3 d (by omega)
        · simp only
          rw [kX,if_pos g,List.length_append];rfl
      · rw [dF g,cF]
        refine ⟨_,rfl,r1,fun d hd=>?_,fun d hd=>r3 d (by omega),?_⟩
        · by_cases gd:d=k
          · subst gd;simp only;rw [if_neg g];exact r3 d (Nat.le_refl d)
          · exact r2 d (by omega)
        · simp only
          rw [kX,if_neg g,List.append_nil])
  obtain ⟨l,y⟩:=r
  simp only at r1 r2 r3 r4
  rw [Nat.zero_add] at r2 r4
  rw [er,r4]
  exact ⟨l,rfl,r1,r2⟩
end
end Pu

/- The law of chapter 24: every choice of numbers is reached, at last. -/
set_option linter.unusedVariables false
namespace Pu
open Gw Gl Sp
theorem we (w:ab) (want:List Nat) (hK:∀ y ∈ w.aa,y.K < 18446744073709551616):dB w want=some true:=by
  unfold dB
  rw [LL,bS,nT,cF,bS]
  obtain ⟨b,eb,hb⟩:=BB (m:=JY (w.S.N - w.S.T)) (most:=6) (by omega) hK
  rw [eb,bS]
  cases b
  · rw [nF,cT,bS,cT]
  obtain ⟨n,t,k,v,hv,hn,ht,hk,hk6,htl⟩:=hb rfl
  have hp:=v.sup
  have hlt:=hp.lt
  have h3:=v.t3
  have h4:=v.n4
  have hgc:n - t=3 ∨ n - t=4 ∨ n - t=5 ∨ n - t=6:=by omega
  have e0:JY (((n:Nat):Int) - ((t:Nat):Int))=((n - t:Nat):Int):=by unfold JY;omega
  have hkg:k=n - t:=by rw [v.N,v.T,e0] at hk;omega
  have:NeZero w.S.P:=hp.ne
  rw [nT,cF,v.N,v.T,e0]
  by_cases hc:w.af.length=t
  · rw [qF (by omega),cF]
    by_cases hd:w.aa.length=0
    · rw [dF (by omega),cF]
      by_cases hwl:want.length=n - t
      · rw [qF (by omega),cF]
        obtain ⟨b2,eb2,hb2⟩:=y8 (p:=w.S.P) (l:=want) (most:=7) (by omega)
        rw [eb2,bS,bS]
        cases b2
        · rw [nF,cT]
        have hwp:=hb2 rfl
        have hdev:w.aa=[]:=List.length_eq_zero_iff.1 hd
        have e1:max 0 ((n - t:Nat):Int).toNat=n - t:=by omega
        have e2:max 0 ((n:Nat):Int).toNat=n:=by omega
        have hb1:(n - t+(n - t - 1)) / (n - t)=1:=by rcases hgc with g | g | g | g <;> rw [g]
        have hlen:∀ d,d < n→3≤(w.ax.getD d []).length:=fun d hd=>by
          have:=htl d hd
          rw [hkg,hb1] at this
          rcases ht with rfl | rfl
          · have this:1*3≤_:=this;omega
          · have this:1*6≤_:=this;omega
        obtain ⟨H,eH,H1,H2,H3⟩:=yv hp (r:=n - t) (n:=n) (by omega) (by omega) (by omega) hn
        obtain ⟨left,eL,l1,l2⟩:=DF v.toSc hn (e:=0) H1 (by omega) H2 v.tl (fun d hd=>⟨by have:=hlen d hd;omega,v.tb d hd⟩) hwl hwp
        have hL:=C7 v hc
        have hPm:pQ w.S.P (n - t) (n - t) (qU w H n (n - t)):=⟨eE,fun i hi=>by unfold qU;rw [en hi,List.length_map,hL],fun i hi j hj=>by
          unfold qU
          rw [en hi,List.getD_eq_getElem?_getD,List.getElem?_map,ix 0 (by omega)]
          exact (H2 i hi).2.get hp.pos _⟩
        have hPg:∀ i,i < n - t→∀ q,q < n - t→((qU w H n (n - t)).getD i []).getD q 0=(H.getD i []).getD ((j0 w n).getD q 0) 0:=fun i hi q hq=>by
          unfold qU
          rw [en hi,List.getD_eq_getElem?_getD,List.getElem?_map,ix 0 (by omega)];rfl
        obtain ⟨x,e,eS,hS⟩:=Eb (h:=n - t) (n:=n - t) (M:=fun i j=>if j=n - t then o w.S.P (left.getD i 0) else G w.S.P (qU w H n (n - t)) i j) hp hPm (by omega) l1 (fun i hi=>(l2 i hi).1) (by omega) (by omega) (fun i hi j hj=>if_neg (by omega)) (fun i hi=>if_pos rfl)
        have hdot:∀ (u:Nat→Fin w.S.P) i,i < n - t→dot (n - t) (fun j=>if j=n - t then o w.S.P (left.getD i 0) else G w.S.P (qU w H n (n - t)) i j) u=sm (n - t) (fun q=>o w.S.P ((H.getD i []).getD ((j0 w n).getD q 0) 0)*u q):=fun u i hi=>by
          unfold dot
          exact bO fun q hq=>by
            show (if q=n - t then o w.S.P (left.getD i 0) else G w.S.P (qU w H n (n - t)) i q)*u q=_
            rw [if_neg (by omega)]
            unfold G
            rw [hPg i hi q hq]
        obtain ⟨u,hu⟩:=Ea v (by omega) hc H3 (tv:=fun d=>o w.S.P ((w.ax.getD d []).getD 0 0)) (want:=fun i=>o w.S.P (want.getD i 0))
        rcases hS with ⟨he,x1,x2,x3⟩ | ⟨_,hno⟩
        · subst he
          have hx:∀ i,i < n - t→sm (n - t) (fun q=>o w.S.P ((H.getD i []).getD ((j0 w n).getD q 0) 0)*o w.S.P (x.getD q 0))=o w.S.P (left.getD i 0):=fun i hi=>by
            have:=x3 i hi
            rw [hdot _ i hi] at this
            rw [this]
            exact if_pos rfl
          obtain ⟨tp,eTp,p1,p2⟩:=Ef v.toSc (e:=0) (x:=x) v.tl v.tl (fun d hd=>⟨by have:=hlen d hd;omega,v.ts d hd⟩) rfl (by omega)
          have hxp:∀ i,x.getD i 0 < w.S.P:=fun i=>Lt.get hp.pos (show Lt w.S.P x from fun i hi=>x2 i (by omega)) i
          have htpl:∀ d,d < n→(tp.getD d []).length=(w.ax.getD d []).length:=fun d hd=>by
            have:=hlen d hd
            rw [p2 d hd]
            split
            · rw [List.length_cons,List.length_drop];omega
            · rfl
          have v':Va ⟨w.S,w.af,w.aa,tp⟩ n t:=⟨⟨v.sup,v.N,v.T,v.n4,v.n13,v.t1,v.t3,v.cl,v.cr,v.dl,v.dv⟩,v.ord,p1,fun d hd j hj=>by
            simp only at hj ⊢
            rw [p2 d hd]
            split
            · cases j with
              | zero=>exact hxp _
              | succ j =>
                show ((w.ax.getD d []).drop 1).getD j 0 < _
                rw [List.getD_eq_getElem?_getD,List.getElem?_drop,← List.getD_eq_getElem?_getD]
                exact Lt.get hp.pos (v.tb d hd) _
            · exact Lt.get hp.pos (v.tb d hd) _,fun d hd=>by simp only;rw [htpl d hd];exact v.ts d hd,v.full⟩
          have:NeZero (⟨w.S,w.af,w.aa,tp⟩:ab).S.P:=this
          obtain ⟨out,views,T,H',sec,ez,z1,z2,_,z4,z5⟩:=G6 (net:=⟨⟨w.S,w.af,w.aa,tp⟩,0,List.replicate n [],tp.map fun l=>⟨l,0⟩⟩) (m:=n - t) v'.toSc ht hn (by omega) (by omega) (KZ v') (fun d hd=>by
            have:=htl d hd
            simp only
            rw [hkg] at this
            rw [Nat.zero_add,htpl d hd];exact this) (fun d hd=>v'.tb d hd) Mf (by omega) (by show 0≤(0:Int)∧(0:Int)≤700;omega)
          simp only at z2 z4 z5
          have hHH:H=H':=congrArg Prod.fst (Option.some.inj (eH.symm.trans z4))
          subst hHH
          have hsec:∀ d,d < n→sec d 0=o w.S.P ((tp.getD d []).getD 0 0):=fun d hd=>by
            have:=z5 hdev d hd 0 (by rw [hb1];omega)
            rw [this,Nat.zero_mul]
          have hval:∀ i,i < n - t→tQ (⟨w.S,w.af,w.aa,tp⟩:ab) n t (out.getD i []) (o w.S.P (want.getD i 0)):=fun i hi=>by
            have h1:=z2 i hi
            have i1:i % (n - t)=i:=Nat.mod_eq_of_lt hi
            have i2:i / (n - t)=0:=Nat.div_eq_of_lt hi
            rw [i1,i2] at h1
            have e3:sm n (fun d=>o w.S.P ((H.getD i []).getD d 0)*sec d 0)=o w.S.P (want.getD i 0):=by
              rw [zU (w:=w) (fun d=>o w.S.P ((H.getD i []).getD d 0)*sec d 0)]
              have a1:sm (j0 w n).length (fun q=>o w.S.P ((H.getD i []).getD ((j0 w n).getD q 0) 0)*sec ((j0 w n).getD q 0) 0)=o w.S.P (left.getD i 0):=by
                rw [hL,← hx i hi]
                refine bO fun q hq=>?_
                obtain ⟨m1,m2⟩:=AN (w:=w) (n:=n) (i:=q) (by omega)
                rw [hsec _ m1,p2 _ m1,if_pos m2,xr (by omega)];rfl
              have a2:sm n (fun d=>if (((d:Nat):Int)+1) ∉ w.af then (0:Fin w.S.P) else o w.S.P ((H.getD i []).getD d 0)*sec d 0)=sm n (fun d=>if (((d:Nat):Int)+1) ∉ w.af then 0 else o w.S.P ((H.getD i []).getD d 0)*o w.S.P ((w.ax.getD d []).getD 0 0)):=bO fun d hd=>by
                by_cases g:(((d:Nat):Int)+1) ∉ w.af
                · rw [if_pos g,if_pos g]
                · rw [if_neg g,if_neg g,hsec d hd,p2 d hd,if_neg g]
              rw [a1,a2,(l2 i hi).2];grind
            rw [e3] at h1
            exact h1
          rw [nT,cF,eH,bS]
          simp only
          rw [qF rfl,cF,e1,bZ (by omega),bS,Nat.sub_zero,eL,bS]
          simp only
          rw [eS,bS]
          simp only
          rw [qF rfl,cF,x1,qF (by omega),bS,cF,aO (by rw [v.tl];simp only [List.length_nil];omega) (by rw [v.tl];simp only [List.length_nil];omega),bS,List.nil_append,e2,bZ (by omega),bS,Nat.sub_zero,eTp,bS]
          simp only
          rw [Jd v',bS,sR,ez,bS]
          obtain ⟨r,er,hr⟩:=iR (step:=fun (st:Int)=>db w want ((n - t:Nat):Int) tp (out,(0:Int)+7,views,T) st) (fun st=>∃ i,i≤n - t∧st=((i:Nat):Int)) (fun r=>r=.inr ()) (fun st=>n - st.toNat) (fun st ⟨i,hi,hst⟩=>by
            subst hst
            unfold db
            by_cases g:i < n - t
            · obtain ⟨y,ey,y1,y2⟩:=B6 v'.toSc hn (by omega) (hval i g)
              have hy:y=want.getD i 0:=pa y1 (hwp.get hp.pos i) y2
              rw [dT (by omega),cT,dT (by simp only;omega),bS,cT,aQ [] (by omega) (by simp only;omega),bS,Int.toNat_natCast]
              simp only
              rw [ey,bS]
              simp only
              rw [nT,cF,aQ 0 (by omega) (by omega),bS,Int.toNat_natCast,qF (by rw [hy]),cF,bd (by omega) (by omega),bS]
              exact ⟨_,rfl,⟨i+1,g,rfl⟩,by omega⟩
            · rw [dF (by omega),cF,bS,cF]
              exact ⟨_,rfl,rfl⟩) (s:=((0:Nat):Int)) ⟨0,by omega,rfl⟩ (by omega)
          subst hr
          rw [er,bS,Md]
          simp only
          rw [z1,eT rfl]
        · exfalso
          refine hno u fun i hi=>?_
          show dot (n - t) _ u=_
          rw [hdot u i hi]
          show _=if n - t=n - t then o w.S.P (left.getD i 0) else _
          rw [if_pos rfl,(l2 i hi).2,← hu i hi,hL]
      · rw [qT (by omega),cT,bS,cT]
    · rw [dT (by omega),cT,bS,cT]
  · rw [qT (by omega),cT,bS,cT]
end Pu
