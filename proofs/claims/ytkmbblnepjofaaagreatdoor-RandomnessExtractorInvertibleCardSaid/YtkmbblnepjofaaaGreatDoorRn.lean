/- Plain laws of chapter 24: hyperinvertible matrices, multiples and sums of sharings. -/
import Derived.Test.YtkmbblnepjofaaaGreatDoorRf
set_option linter.unusedVariables false
namespace Pu
open Gw Gl Sp
theorem sJ {a n:Nat} (hn:n≤100) (ha:a≤100):dy ((a:Nat):Int) ((n:Nat):Int)=some ((List.range n).map fun i=>a+i):=by
  have e0:max 0 ((n:Nat):Int).toNat=n:=by omega
  unfold dy
  rw [e0,lH (by omega),bS,Nat.sub_zero,qq (fun i=>a+i) (fun k l hk hl=>by
    have hu:tf (((a:Nat):Int)+((k:Nat):Int))=a+k:=by unfold tf;omega
    unfold gP
    rw [lk (by omega) (by omega),bS,bS,hu,ei (by simp only [List.length_cons,List.length_nil];omega) (by simp only [List.length_cons,List.length_nil];omega),bS]),bS]
section
variable {p:Nat} [NeZero p]
theorem ye (hp:iq p) {n at_:Nat} (hu:dW ((List.range n).map fun i=>1+i)=some true) (h7:n≤13) (ha:at_ < p):∃ l,dj p ((List.range n).map fun i=>1+i) at_=some (l,0)∧l.length=n∧Lt p l∧∀ k,k < n→o p (l.getD k 0)*pd (fun j=>o p (1+j)) k (o p (1+k)) n=pd (fun j=>o p (1+j)) k (o p at_) n:=by
  have hlt:=hp.lt
  have hg:∀ j,j < n→((List.range n).map fun i=>1+i)[j]?=some (1+j):=fun j hj=>by rw [List.getElem?_map,List.getElem?_range hj];rfl
  unfold dj
  rw [hu,bS,nT,cF,nP,Nat.sub_zero]
  obtain ⟨l,e,l1,l2,l3⟩:=jz (body:=fun k1 (st:(List Nat))=>dV p ((List.range n).map fun i=>1+i) at_ k1 st) (fun k l=>l.length=k∧Lt p l∧∀ i,i < k→o p (l.getD i 0)*pd (fun j=>o p (1+j)) i (o p (1+i)) n=pd (fun j=>o p (1+j)) i (o p at_) n) (rem:=n) (k:=0) (s:=[]) ⟨rfl,fun i hi=>by simp at hi,fun i hi=>by omega⟩ (fun k l _ hk ⟨l1,l2,l3⟩=>by
    have hkn:k < n:=by omega
    unfold dV bL
    rw [hg k hkn,bS,nP,Nat.sub_zero]
    obtain ⟨r,er,r1,r2,r3,r4⟩:=jz (body:=fun k1 (st:Nat × Nat)=>a6 ((List.range n).map fun i=>1+i) ((k:Nat):Int) p at_ (1+k) k1 st.1 st.2) (fun j st=>st.1 < p∧st.2 < p∧o p st.1=pd (fun j=>o p (1+j)) k (o p at_) j∧o p st.2=pd (fun j=>o p (1+j)) k (o p (1+k)) j) (rem:=n) (k:=0) (s:=(1,1)) ⟨by show 1 < p;omega,by show 1 < p;omega,by simp only [pd,xl],by simp only [pd,xl]⟩ (fun j st _ hj ⟨s1,s2,s3,s4⟩=>by
      have hjn:j < n:=by omega
      unfold a6
      rw [hg j hjn,bS]
      by_cases g:j=k
      · rw [qF (by omega),cF];exact ⟨_,rfl,s1,s2,by rw [pd,if_pos g];exact s3,by rw [pd,if_pos g];exact s4⟩
      · unfold ee
        rw [qT (by omega),cT,wu hp ha (by omega),bS,nE hp s1 (Nat.mod_lt _ hp.pos),bS,wu hp (by omega) (by omega),bS,nE hp s2 (Nat.mod_lt _ hp.pos),bS,bS]
        refine ⟨_,rfl,Nat.mod_lt _ hp.pos,Nat.mod_lt _ hp.pos,?_,?_⟩
        · simp only
          rw [rv,sH,wm (by omega),s3,pd,if_neg g]
        · simp only
          rw [rv,sH,wm (by omega),s4,pd,if_neg g])
    obtain ⟨x,y⟩:=r
    rw [Nat.zero_add] at r3 r4
    simp only at r1 r2 r3 r4
    have hy:y≠0:=fun h=>by
      refine vr hp (X:=fun j=>o p (1+j)) (i:=k) (y:=o p (1+k)) (n:=n) (fun j hj hjk e=>?_) (by rw [← r4,h,nG])
      have e:o p (1+k)=o p (1+j):=by grind
      have:=sG (p:=p) (by omega) (by omega) e
      omega
    obtain ⟨z,ez,hz,hz2⟩:=B8 hp r1 r2 hy
    rw [er,bS]
    simp only
    rw [bS]
    simp only
    rw [ez,bS,ei (by simp only [List.length_cons,List.length_nil];omega) (by simp only [List.length_cons,List.length_nil];omega),bS]
    refine ⟨_,rfl,by rw [List.length_append,l1];rfl,fun i hi=>?_,fun i hi=>?_⟩
    · rw [List.length_append] at hi
      have hi:i < l.length+1:=hi
      by_cases g:i < l.length
      · rw [gy g];exact l2 i g
      · rw [j6 (by omega)];exact hz
    · by_cases g:i < k
      · rw [gy (by omega)];exact l3 i g
      · have:i=k:=by omega
        subst this
        rw [j6 (by omega),← r3,← r4,hz2])
  rw [Nat.zero_add] at l1 l3
  rw [e,bS]
  exact ⟨l,rfl,l1,l2,l3⟩
theorem B0 (hp:iq p) {r n:Nat} (hu:dW ((List.range n).map fun i=>1+i)=some true) (hr:1≤r) (hr7:r≤12) (h1:1≤n) (h7:n≤13) (hrn:n+r < 31):∃ H,ep p ((r:Nat):Int) ((n:Nat):Int)=some (H,0)∧H.length=r∧(∀ i,i < r→(H.getD i []).length=n∧Lt p (H.getD i []))∧∀ i,i < r→∀ k,k < n→o p ((H.getD i []).getD k 0)*pd (fun j=>o p (1+j)) k (o p (1+k)) n=pd (fun j=>o p (1+j)) k (o p (n+1+i)) n:=by
  have hlt:=hp.lt
  have hv:tf (((r:Nat):Int)+((n:Nat):Int))=r+n:=by unfold tf;omega
  have e1:((n:Nat):Int)+1=((n+1:Nat):Int):=by omega
  unfold ep
  rw [dF (by omega),cF,dF (by omega),cF,dF (by omega),cF,dF (by omega),cF,lk (by omega) (by omega),bS,bS,hv,dF (by omega),bS,cF,sJ (by omega) (by omega),bS,lk (by omega) (by omega),bS,e1,sJ (by omega) (by omega),bS,nP,Nat.sub_zero]
  obtain ⟨o1,e,ho⟩:=km (body:=fun k1 (st:(List (List Nat)))=>fL p ((List.range n).map fun i=>1+i) ((List.range r).map fun i=>n+1+i) k1 st) (fun k l=>l.length=k∧∀ i,i < k→(l.getD i []).length=n∧Lt p (l.getD i [])∧∀ j,j < n→o p ((l.getD i []).getD j 0)*pd (fun j=>o p (1+j)) j (o p (1+j)) n=pd (fun j=>o p (1+j)) j (o p (n+1+i)) n) (fun _=>False) (rem:=r) (k:=0) (s:=[]) ⟨rfl,fun i hi=>by omega⟩ (fun k l _ hk ⟨l1,l2⟩=>by
    have hkr:k < r:=by omega
    obtain ⟨x,ex,x1,x2,x3⟩:=ye hp hu h7 (show n+1+k < p by omega)
    have hg:((List.range r).map fun i=>n+1+i)[k]?=some (n+1+k):=by rw [List.getElem?_map,List.getElem?_range hkr];rfl
    unfold fL
    rw [hg,bS,ex,bS]
    simp only
    rw [qF rfl,cF,ei (by simp only [List.length_cons,List.length_nil];omega) (by simp only [List.length_cons,List.length_nil];omega),bS]
    refine ⟨_,rfl,by rw [List.length_append,l1];rfl,fun i hi=>?_⟩
    by_cases g:i < k
    · rw [gy (by omega)];exact l2 i g
    · have:i=k:=by omega
      subst this
      rw [j6 (by omega)];exact ⟨x1,x2,x3⟩)
  rw [e,bS]
  cases o1 with
  | fin b=>exact ho.elim
  | go l =>
    rw [Nat.zero_add] at ho
    rw [oG]
    exact ⟨l,rfl,ho.1,fun i hi=>⟨(ho.2 i hi).1,(ho.2 i hi).2.1⟩,fun i hi=>(ho.2 i hi).2.2⟩
end
section
variable {w:ac} [NeZero w.S.P] {n t:Nat}
end
end Pu

/- Plain laws of chapter 24: random sharings, and that they are consistent. -/
set_option linter.unusedVariables false
namespace Pu
open Gw Gl Sp
theorem Gi:iB=some true:=by decide +kernel
section
variable {p n t c:Nat} {res:b0}
end
theorem Gg.congr {n:Nat} {T:List aJ} {tp:Nat→List Nat} {ps ps':Nat→Nat} (h:Gg n T tp ps) (e:∀ i,i < n→ps i=ps' i):Gg n T tp ps' :=
  ⟨h.len,fun i hi=>by rw [h.at_ i hi,e i hi],fun i hi=>by rw [← e i hi];exact h.le i hi⟩
end Pu

/- Plain laws of chapter 24: every choice of numbers is reached. -/
set_option linter.unusedVariables false
namespace Pu
open Gw Gl Sp
section
variable {p:Nat} [NeZero p]
/-- values at distinct places are a polynomial's -/
theorem tt (hp:iq p) {n:Nat} {X Y:Nat→Fin p} (hX:∀ i j,i < n→j < n→i≠j→X i≠X j):∃ f:List (Fin p),f.length≤n∧∀ i,i < n→fF f (X i)=Y i:=by
  have hd:∀ g,g < n→pd X g (X g) n≠0:=fun g hg=>vr hp fun j hj hjg e=>hX g j hg hj (fun e=>hjg e.symm) (by grind)
  have hi:∀ g,∃ b,g < n→b*pd X g (X g) n=1:=fun g=>by
    by_cases hg:g < n
    · obtain ⟨b,hb⟩:=EN hp (hd g hg)
      exact ⟨b,fun _=>hb⟩
    · exact ⟨0,fun h=>absurd h hg⟩
  obtain ⟨inv,hinv⟩:∃ inv:Nat→Fin p,∀ g,g < n→inv g*pd X g (X g) n=1:=⟨fun g=>Classical.choose (hi g),fun g hg=>Classical.choose_spec (hi g) hg⟩
  refine ⟨uq (fun g=>Y g*inv g) (fun g=>uM X g n) n,sE fun k hk=>by
    have:=se (X:=X) (i:=k) (n:=n)
    rw [if_pos hk] at this;omega,fun i hi=>?_⟩
  have e1:=sQ (n:=n) hi (fun _=>(0:Fin p)) (fun k=>Y k*inv k*pd X k (X i) n) (Y i) (by
    have:=hinv i hi
    have e:Y i*inv i*pd X i (X i) n=Y i*(inv i*pd X i (X i) n):=by grind
    show Y i*inv i*pd X i (X i) n=Y i+0
    rw [e,this];grind) (fun j hj hji=>by
    show Y j*inv j*pd X j (X i) n=0
    rw [sc (X:=X) (i:=j) (j:=i) (fun e=>hji e.symm) hi];grind)
  have e2:sm n (fun _=>(0:Fin p))=0:=md fun _ _=>rfl
  rw [qk]
  have e3:sm n (fun k=>Y k*inv k*fF (uM X k n) (X i))=sm n (fun k=>Y k*inv k*pd X k (X i) n):=fB fun k _=>by rw [mc]
  rw [e3,e1,e2];grind
/-- what the matrix does to a polynomial's values -/
theorem xN (hp:iq p) {n:Nat} (h7:n≤13) {h:List Nat} {y:Fin p} (hh:∀ k,k < n→o p (h.getD k 0)*pd (fun j=>o p (1+j)) k (o p (1+k)) n=pd (fun j=>o p (1+j)) k y n) {f:List (Fin p)} (hf:f.length≤n):fF f y=sm n fun d=>o p (h.getD d 0)*fF f (o p (1+d)):=by
  have hlt:=hp.lt
  have hX:∀ i j,i < n→j < n→i≠j→o p (1+i)≠o p (1+j):=fun i j hi hj h e=>by
    have:=sG (p:=p) (by omega) (by omega) e;omega
  obtain ⟨a,ha⟩:=G4 hp (X:=fun j=>o p (1+j)) hX y
  rw [ha f hf]
  refine fB fun k hk=>?_
  have hn:pd (fun j=>o p (1+j)) k (o p (1+k)) n≠0:=vr hp fun j hj hjk e=>hX k j hk hj (fun e=>hjk e.symm) (by grind)
  have h1:=ha (uM (fun j=>o p (1+j)) k n) (by
    have:=se (X:=fun j=>o p (1+j)) (i:=k) (n:=n)
    rw [if_pos hk] at this;omega)
  rw [mc] at h1
  have e1:=sQ (n:=n) hk (fun _=>(0:Fin p)) (fun g=>a g*fF (uM (fun j=>o p (1+j)) k n) (o p (1+g))) (a k*pd (fun j=>o p (1+j)) k (o p (1+k)) n) (by
    show a k*fF (uM (fun j=>o p (1+j)) k n) (o p (1+k))=_+0
    rw [mc];grind) (fun j hj hjk=>by
    show a j*fF (uM (fun j=>o p (1+j)) k n) (o p (1+j))=0
    rw [mc]
    have:=sc (X:=fun j=>o p (1+j)) (i:=k) (j:=j) hjk hj
    rw [this];grind)
  have e2:sm n (fun _=>(0:Fin p))=0:=md fun _ _=>rfl
  rw [e1,e2,← hh k hk] at h1
  have h2:(o p (h.getD k 0) - a k)*pd (fun j=>o p (1+j)) k (o p (1+k)) n=0:=by grind
  rcases hp.nz _ _ h2 with h3 | h3
  · have:o p (h.getD k 0)=a k:=by grind
    rw [this]
  · exact absurd h3 hn
end
section
variable {w:ac} {n t:Nat}
theorem zN {R:Type} [Lean.Grind.CommRing R] (F:Nat→R):∀ {n:Nat},sm n F=sm (jI w n).length (fun q=>F ((jI w n).getD q 0))+sm n (fun d=>if (((d:Nat):Int)+1) ∉ w.ae then 0 else F d)
  | 0=>by
    have:(jI w 0).length=0:=rfl
    rw [this];simp only [sm];grind
  | n+1=>by
    have ih:=zN F (n:=n)
    rw [sm,sm,oD,ih]
    by_cases g:(((n:Nat):Int)+1) ∉ w.ae
    · rw [if_pos g,if_pos g]
      have hl:(jI w n++[n]).length=(jI w n).length+1:=by rw [List.length_append];rfl
      have e1:sm ((jI w n).length+1) (fun q=>F ((jI w n++[n]).getD q 0))=sm (jI w n).length (fun q=>F ((jI w n).getD q 0))+F n:=by
        rw [sm,j6 rfl]
        rw [fB (g:=fun q=>F ((jI w n).getD q 0)) fun q hq=>by rw [gy hq]]
      rw [hl,e1];grind
    · rw [if_neg g,if_neg g,List.append_nil];grind
theorem rZ:∀ {n q:Nat},q < (jI w n).length→(jI w ((jI w n).getD q 0)).length=q
  | 0,q,h=>by simp [jI] at h
  | n+1,q,h=>by
    rw [oD] at h ⊢
    by_cases g:(((n:Nat):Int)+1) ∉ w.ae
    · rw [if_pos g] at h ⊢
      rw [List.length_append] at h
      have h:q < (jI w n).length+1:=h
      by_cases g2:q < (jI w n).length
      · rw [gy g2];exact rZ g2
      · have:q=(jI w n).length:=by omega
        rw [j6 this,this]
    · rw [if_neg g,List.append_nil] at h ⊢
      exact rZ h
theorem ut {l:List Int} (h:∀ i,0 < i→i < l.length→l.getD (i - 1) 0 < l.getD i 0) {i:Nat}:∀ {j:Nat},i < j→j < l.length→l.getD i 0 < l.getD j 0
  | 0,h1,_=>by omega
  | j+1,h1,h2=>by
    have h3:=h (j+1) (by omega) h2
    rw [Nat.add_sub_cancel] at h3
    by_cases g:i=j
    · rw [g];exact h3
    · have:=ut h (i:=i) (j:=j) (by omega) (by omega);omega
theorem vi (v:Va w n t) (hc:w.ae.length=t):(jI w n).length=n - t:=by
  have h1:=BZ v.toSc
  have h3:=v.t3
  have h2:=C6 (l:=List.range n) (f:=fun i=>decide ((((i:Nat):Int)+1) ∉ w.ae))
  rw [List.length_range] at h2
  have h4:w.ae.length≤(((List.range n).filter fun i=>!decide ((((i:Nat):Int)+1) ∉ w.ae)).map fun i=>((i:Nat):Int)+1).length:=by
    refine uB ?_ fun x hx=>?_
    · rw [List.Nodup,List.pairwise_iff_getElem]
      intro i j hi hj hij e
      have:=ut v.ord hij hj
      rw [List.getD_eq_getElem?_getD,List.getD_eq_getElem?_getD,List.getElem?_eq_getElem hi,List.getElem?_eq_getElem hj] at this
      have this:w.ae[i] < w.ae[j]:=this
      omega
    · obtain ⟨x1,x2⟩:=v.cr x hx
      have e:(((x - 1).toNat:Nat):Int)+1=x:=by omega
      refine List.mem_map.2 ⟨(x - 1).toNat,List.mem_filter.2 ⟨List.mem_range.2 (by omega),?_⟩,e⟩
      rw [e];simpa using hx
  rw [List.length_map] at h4
  show ((List.range n).filter fun i=>decide ((((i:Nat):Int)+1) ∉ w.ae)).length=_
  have h5:((List.range n).filter fun i=>decide ((((i:Nat):Int)+1) ∉ w.ae)).length=(jI w n).length:=rfl
  omega
variable [NeZero w.S.P]
end
end Pu

/- The law of chapter 24: every choice of numbers is reached. -/
set_option linter.unusedVariables false
namespace Pu
open Gw Gl Sp
section
variable {w:ac} {n t:Nat} [NeZero w.S.P]
end
section
variable {w:ac} {n t:Nat}
end
end Pu

/- Plain laws of chapter 24: a matrix without kernel has as many pivots as columns. -/
set_option linter.unusedVariables false
namespace Sp
open Lean.Grind
section
variable {R:Type} [CommRing R]
theorem wC {n:Nat} (a u v:Nat→R):dot n a (fun j=>u j+v j)=dot n a u+dot n a v:=by
  unfold dot
  rw [← zM]
  exact fB fun j _=>by grind
theorem Av {n:Nat} (a u v:Nat→R):dot n a (fun j=>u j - v j)=dot n a u - dot n a v:=by
  have h:=wC (n:=n) a (fun j=>u j - v j) v
  have e:dot n a (fun j=>u j - v j+v j)=dot n a u:=by
    unfold dot
    exact fB fun j _=>by grind
  grind
theorem yy {n c:Nat} (hc:c < n) (a:Nat→R):dot n a (fun j=>if j=c then 1 else 0)=a c:=by
  unfold dot
  have h:=sQ (n:=n) hc (fun _=>(0:R)) (fun j=>a j*(if j=c then 1 else 0)) (a c) (by show a c*(if c=c then 1 else 0)=a c+0;rw [if_pos rfl];grind) (fun j hj hne=>by show a j*(if j=c then 1 else 0)=0;rw [if_neg hne];grind)
  have z:sm n (fun _=>(0:R))=0:=md fun _ _=>rfl
  grind
theorem xp {h n k:Nat} {M:Nat→Nat→R} {piv:Nat→Nat} (hd:∀ a b,a < k→b < k→piv a=piv b→a=b):∃ out:Nat→R,Read n M piv k out:=by
  have h1:∀ j,∃ x:R,(∀ r,r < k→piv r=j→x=M r n)∧((∀ r,r < k→piv r≠j)→x=0):=fun j=>by
    by_cases g:∃ r,r < k∧piv r=j
    · obtain ⟨r,hr,e⟩:=g
      exact ⟨M r n,fun s hs e2=>by rw [hd s r hs hr (e2.trans e.symm)],fun h=>absurd e (h r hr)⟩
    · exact ⟨0,fun r hr e=>absurd ⟨r,hr,e⟩ g,fun _=>rfl⟩
  exact ⟨fun j=>Classical.choose (h1 j),fun j _ hn=>(Classical.choose_spec (h1 j)).2 hn,fun r hr=>(Classical.choose_spec (h1 (piv r))).1 r hr rfl⟩
theorem Gz {n k:Nat} {piv:Nat→Nat} (h:k < n):∃ c,c < n∧∀ r,r < k→piv r≠c:=by
  apply Classical.byContradiction
  intro g
  have h1:((List.range n).map fun x=>((x:Nat):Int)).length≤((List.range k).map fun r=>((piv r:Nat):Int)).length:=by
    refine Pu.uB ?_ fun x hx=>?_
    · rw [List.Nodup,List.pairwise_map]
      exact List.Pairwise.imp (fun {a b} h=>by omega) List.nodup_range
    · obtain ⟨y,hy,rfl⟩:=List.mem_map.1 hx
      apply Classical.byContradiction
      intro g2
      exact g ⟨y,List.mem_range.1 hy,fun r hr e=>g2 (List.mem_map.2 ⟨r,List.mem_range.2 hr,by rw [e]⟩)⟩
  rw [List.length_map,List.length_range,List.length_map,List.length_range] at h1
  omega
/-- a square matrix whose system can be solved, and only in one way, has all pivots -/
theorem qC.full {n k:Nat} {M0 M:Nat→Nat→R} {piv:Nat→Nat} (r:qC n n M0 M k piv n) (one:(1:R)≠0) (hex:∃ v,Cv n n M0 v) (inj:∀ y:Nat→R,(∀ i,i < n→dot n (M0 i) y=0)→∀ j,j < n→y j=0):k=n:=by
  apply Classical.byContradiction
  intro hne
  have hk:k < n:=by have:=r.len;omega
  obtain ⟨c,hc,hcp⟩:=Gz (piv:=piv) hk
  obtain ⟨v,hv⟩:=hex
  have hd:∀ a b,a < k→b < k→piv a=piv b→a=b:=fun a b ha hb e=>r.distinct one ha hb e
  obtain ⟨u,hu⟩:=xp (h:=n) (n:=n) (M:=M) hd
  have su:=r.solved one hu fun i h1 h2=>r.rest hv h1 h2
  let M':Nat→Nat→R:=fun i j=>if j=n then M i n - M i c else M i j
  have hM:∀ i j,j < n→M' i j=M i j:=fun i j hj=>if_neg (by omega)
  have r':qC n n M' M' k piv n:=⟨fun _=>Iff.rfl,r.len,r.lt,r.cn,fun s hs i hi=>by rw [hM i _ (r.lt s hs)];exact r.unit s hs i hi,fun i h1 h2 j hj=>by rw [hM i j hj];exact r.low i h1 h2 j hj⟩
  obtain ⟨o,ho⟩:=xp (h:=n) (n:=n) (M:=M') hd
  have hoc:o c=0:=ho.1 c hc hcp
  have huc:u c=0:=hu.1 c hc hcp
  have sz:Cv n n M0 (fun j=>o j+(if j=c then 1 else 0)):=by
    rw [r.sol]
    intro i hi
    rw [wC,yy hc,← j0 (a:=M' i) (b:=M i) (fun j hj=>hM i j hj),r'.read_sum one i hi k o (Nat.le_refl k) ho]
    by_cases g:i < k
    · rw [if_pos g]
      show (if n=n then M i n - M i c else M i n)+M i c=M i n
      rw [if_pos rfl];grind
    · rw [if_neg g,r.low i (by omega) hi c hc,r.rest hv (by omega) hi];grind
  have:=inj (fun j=>(o j+(if j=c then 1 else 0)) - u j) (fun i hi=>by
    rw [Av,sz i hi,su i hi];grind) c hc
  simp only [hoc,huc,if_pos] at this
  have e:(0:R)+1 - 0=1:=by grind
  rw [e] at this
  exact one this
end
end Sp

/- Plain laws of chapter 24: the honest part of the extractor has no kernel. -/
set_option linter.unusedVariables false
namespace Pu
open Gw Gl Sp
section
variable {w:ac} {n t:Nat} [NeZero w.S.P]
omit [NeZero w.S.P] in
theorem yU {d:Nat} (g:(((d:Nat):Int)+1) ∉ w.ae):∀ {n:Nat},d < n→(jI w d).length < (jI w n).length∧(jI w n).getD (jI w d).length 0=d
  | 0,h=>by omega
  | n+1,h=>by
    rw [oD]
    by_cases e:d=n
    · subst e
      rw [if_pos g]
      exact ⟨by rw [List.length_append];exact Nat.lt_succ_self _,j6 rfl⟩
    · obtain ⟨h1,h2⟩:=yU g (n:=n) (by omega)
      exact ⟨by rw [List.length_append];omega,by rw [gy h1];exact h2⟩
omit [NeZero w.S.P] in
/-- the points of the numbers and of the corrupt dealers -/
theorem DU (v:Va w n t) (hc:w.ae.length=t):∃ xs:Nat→Nat,(∀ i j,i < n→j < n→i≠j→xs i≠xs j)∧(∀ q,q < n→xs q < w.S.P)∧(∀ q,q < n - t→xs q=n+1+q)∧(∀ q,n - t≤q→q < n→∃ d,d < n∧xs q=1+d∧(((d:Nat):Int)+1) ∈ w.ae)∧∀ d,d < n→(((d:Nat):Int)+1) ∈ w.ae→∃ q,n - t≤q∧q < n∧xs q=1+d:=by
  have hp:=v.sup
  have hlt:=hp.lt
  have h3:=v.t3
  have h13:=v.n13
  let xs:Nat→Nat:=fun q=>if q < n - t then n+1+q else (w.ae.getD (q - (n - t)) 0).toNat
  have hcr:∀ q,n - t≤q→q < n→w.ae.getD (q - (n - t)) 0 ∈ w.ae∧1≤w.ae.getD (q - (n - t)) 0∧w.ae.getD (q - (n - t)) 0≤n:=fun q h1 h2=>by
    have hm:w.ae.getD (q - (n - t)) 0 ∈ w.ae:=getD_in (by omega)
    exact ⟨hm,v.cr _ hm⟩
  have hxs:∀ i j,i < n→j < n→i≠j→xs i≠xs j:=fun i j hi hj hij=>by
    show (if i < n - t then n+1+i else (w.ae.getD (i - (n - t)) 0).toNat)≠(if j < n - t then n+1+j else (w.ae.getD (j - (n - t)) 0).toNat)
    by_cases g1:i < n - t
    · rw [if_pos g1]
      by_cases g2:j < n - t
      · rw [if_pos g2];omega
      · rw [if_neg g2];have:=hcr j (by omega) hj;omega
    · rw [if_neg g1]
      have:=hcr i (by omega) hi
      by_cases g2:j < n - t
      · rw [if_pos g2];omega
      · rw [if_neg g2]
        have:=hcr j (by omega) hj
        rcases Nat.lt_or_gt_of_ne hij with c | c
        · have:=ut v.ord (i:=i - (n - t)) (j:=j - (n - t)) (by omega) (by omega);omega
        · have:=ut v.ord (i:=j - (n - t)) (j:=i - (n - t)) (by omega) (by omega);omega
  have hxl:∀ q,q < n→xs q < w.S.P:=fun q hq=>by
    show (if q < n - t then n+1+q else (w.ae.getD (q - (n - t)) 0).toNat) < _
    by_cases g1:q < n - t
    · rw [if_pos g1];omega
    · rw [if_neg g1];have:=hcr q (by omega) hq;omega
  refine ⟨xs,hxs,hxl,fun q hq=>if_pos hq,fun q h1 h2=>?_,fun d hd hm=>?_⟩
  · obtain ⟨m1,m2,m3⟩:=hcr q h1 h2
    refine ⟨(w.ae.getD (q - (n - t)) 0).toNat - 1,by omega,?_,?_⟩
    · show (if q < n - t then n+1+q else (w.ae.getD (q - (n - t)) 0).toNat)=_
      rw [if_neg (by omega)];omega
    · have e2:(((w.ae.getD (q - (n - t)) 0).toNat - 1:Nat):Int)+1=w.ae.getD (q - (n - t)) 0:=by omega
      rw [e2];exact m1
  · obtain ⟨j,hj,e⟩:=List.getElem_of_mem hm
    refine ⟨n - t+j,by omega,by omega,?_⟩
    show (if n - t+j < n - t then n+1+(n - t+j) else (w.ae.getD (n - t+j - (n - t)) 0).toNat)=_
    rw [if_neg (by omega),Nat.add_sub_cancel_left,List.getD_eq_getElem?_getD,List.getElem?_eq_getElem hj]
    show (w.ae[j]).toNat=_
    rw [e];omega
theorem vl (v:Va w n t) (hc:w.ae.length=t) {H:List (List Nat)} (hlag:∀ i,i < n - t→∀ k,k < n→o w.S.P ((H.getD i []).getD k 0)*pd (fun j=>o w.S.P (1+j)) k (o w.S.P (1+k)) n=pd (fun j=>o w.S.P (1+j)) k (o w.S.P (n+1+i)) n) :
    (∀ y:Nat→Fin w.S.P,(∀ i,i < n - t→sm (jI w n).length (fun q=>o w.S.P ((H.getD i []).getD ((jI w n).getD q 0) 0)*y q)=0)→∀ q,q < n - t→y q=0) ∧
    ∃ y:Nat→Fin w.S.P,∀ i,i < n - t→sm (jI w n).length (fun q=>o w.S.P ((H.getD i []).getD ((jI w n).getD q 0) 0)*y q)=if i=0 then 1 else 0:=by
  have hp:=v.sup
  have hlt:=hp.lt
  have h3:=v.t3
  have h13:=v.n13
  have hL:=vi v hc
  obtain ⟨xs,hxs,hxl,x1,x2,x3⟩:=DU v hc
  have hev:∀ (f:List (Fin w.S.P)) (y:Nat→Fin w.S.P),f.length≤n→(∀ d,d < n→fF f (o w.S.P (1+d))=if (((d:Nat):Int)+1) ∉ w.ae then y (jI w d).length else 0)→∀ i,i < n - t→fF f (o w.S.P (n+1+i))=sm (jI w n).length (fun q=>o w.S.P ((H.getD i []).getD ((jI w n).getD q 0) 0)*y q):=fun f y f1 f2 i hi=>by
    rw [xN hp h13 (h:=H.getD i []) (hlag i hi) f1,zN (w:=w)]
    have e1:sm n (fun d=>if (((d:Nat):Int)+1) ∉ w.ae then (0:Fin w.S.P) else o w.S.P ((H.getD i []).getD d 0)*fF f (o w.S.P (1+d)))=0:=md fun d hd=>by
      by_cases g:(((d:Nat):Int)+1) ∉ w.ae
      · rw [if_pos g]
      · rw [if_neg g,f2 d hd,if_neg g];grind
    have e2:sm (jI w n).length (fun q=>o w.S.P ((H.getD i []).getD ((jI w n).getD q 0) 0)*fF f (o w.S.P (1+(jI w n).getD q 0)))=sm (jI w n).length (fun q=>o w.S.P ((H.getD i []).getD ((jI w n).getD q 0) 0)*y q):=fB fun q hq=>by
      obtain ⟨m1,m2⟩:=xf (w:=w) (n:=n) (i:=q) hq
      rw [f2 _ m1,if_pos m2,rZ hq]
    rw [e1,e2];grind
  refine ⟨fun y hy=>?_,?_⟩
  · obtain ⟨f,f1,f2⟩:=tt hp (n:=n) (X:=fun d=>o w.S.P (1+d)) (Y:=fun d=>if (((d:Nat):Int)+1) ∉ w.ae then y (jI w d).length else 0) (fun i j hi hj hij e=>by
      have:=sG (p:=w.S.P) (by omega) (by omega) e;omega)
    have hall:∀ q,q < n→fF f (o w.S.P (xs q))=0:=fun q hq=>by
      by_cases g1:q < n - t
      · rw [x1 q g1,hev f y f1 f2 q g1,hy q g1]
      · obtain ⟨d,hd,e,hm⟩:=x2 q (by omega) hq
        rw [e,f2 d hd,if_neg (fun h=>h hm)]
    intro q hq
    have hq':q < (jI w n).length:=by omega
    obtain ⟨m1,m2⟩:=xf (w:=w) (n:=n) (i:=q) hq'
    obtain ⟨a,ha⟩:=G4 hp (X:=fun g=>o w.S.P (xs g)) (fun i j hi hj hij e=>hxs i j hi hj hij (sG (hxl i hi) (hxl j hj) e)) (o w.S.P (1+(jI w n).getD q 0))
    have h1:=ha f f1
    have h2:sm n (fun g=>a g*fF f (o w.S.P (xs g)))=0:=md fun g hg=>by rw [hall g hg];grind
    rw [h2,f2 _ m1,if_pos m2,rZ hq'] at h1
    exact h1
  · obtain ⟨f,f1,f2⟩:=tt hp (n:=n) (X:=fun q=>o w.S.P (xs q)) (Y:=fun q=>if q=0 then 1 else 0) (fun i j hi hj hij e=>hxs i j hi hj hij (sG (hxl i hi) (hxl j hj) e))
    refine ⟨fun q=>fF f (o w.S.P (1+(jI w n).getD q 0)),fun i hi=>?_⟩
    rw [← hev f (fun q=>fF f (o w.S.P (1+(jI w n).getD q 0))) f1 (fun d hd=>?_) i hi,← x1 i hi,f2 i (by omega)]
    by_cases g:(((d:Nat):Int)+1) ∉ w.ae
    · rw [if_pos g,(yU g hd).2]
    · rw [if_neg g]
      obtain ⟨q,q1,q2,q3⟩:=x3 d hd (Classical.not_not.1 g)
      rw [← q3,f2 q q2,if_neg (by omega)]
end
end Pu

/- Law of chapter 24: the extractor is invertible. -/
set_option linter.unusedVariables false
namespace Pu
open Gw Gl Sp
theorem zY:∀ n,n < 14→4≤n→dW ((List.range n).map fun i=>1+i)=some true:=by decide +kernel
theorem Cx {α:Type} {a b:List α} {i j:Nat} {d:α} (h:i=a.length+j):(a++b).getD i d=b.getD j d:=by
  subst h
  rw [List.getD_eq_getElem?_getD,List.getElem?_append_right (by omega),Nat.add_sub_cancel_left,← List.getD_eq_getElem?_getD]
section
variable {p:Nat} [NeZero p] {n:Nat}
theorem wh (hp:iq p) {m:List (List Nat)} (hm:qI p n n m) (h0:0 < n) (hn:n≤30) (hex:∃ y:Nat→Fin p,∀ i,i < n→dot n (G p m i) y=if i=0 then 1 else 0) (inj:∀ y:Nat→Fin p,(∀ i,i < n→dot n (G p m i) y=0)→∀ j,j < n→y j=0):∃ l,jl p m=some (l,0):=by
  have hlt:=hp.lt
  have hE:∀ i,((List.replicate n 0).set i 1).length=n:=fun i=>by simp
  have hEg:∀ i,i < n→∀ j,j < n→((List.replicate n 0).set i 1).getD j 0=if i=j then 1 else 0:=fun i hi j hj=>by
    rw [dx (by simp;exact hi)]
    split
    · rfl
    · rw [GJ]
  have e1:ea (fun k1 (st:(List (List Nat)))=>jm m k1 st) n 0 ([]:List (List Nat))=some ((List.range n).map fun i=>m.getD i []++(List.replicate n 0).set i 1):=qq _ (fun k l hk hl=>by
    have hr:=hm.row _ hk
    unfold jm
    rw [hm.some hk,bS,hm.len,ng (by omega) (by omega) (by omega) (by omega),bS,Int.toNat_natCast,ix 0 (by simp;exact hk),bS,bS,uY (by omega),bS,ei (by rw [hr];simp;omega) (by rw [hr];simp;omega),bS,ei (by simp only [List.length_cons,List.length_nil];omega) (by simp only [List.length_cons,List.length_nil];omega),bS])
  generalize hL:((List.range n).map fun i=>m.getD i []++(List.replicate n 0).set i 1)=L at e1
  have hLg:∀ i,i < n→L.getD i []=m.getD i []++(List.replicate n 0).set i 1:=fun i hi=>by rw [← hL,vo hi]
  have hM:qI p n (n+n) L:=⟨by rw [← hL];simp,fun i hi=>by rw [hLg i hi,List.length_append,hm.row _ hi,hE],fun i hi j hj=>by
    have hr:=hm.row _ hi
    rw [hLg i hi]
    by_cases g:j < n
    · rw [gy (by omega)];exact hm.lt i hi j g
    · rw [Cx (j:=j - n) (by omega),hEg i hi _ (by omega)]
      split <;> omega⟩
  obtain ⟨w,e2,m2,k2,p2,red⟩:=zG hp (n:=n) (W:=n+n) (by omega) (by omega) hM (by omega) (by omega)
  have g1:∀ i,i < n→∀ j,j < n→G p L i j=G p m i j:=fun i hi j hj=>by
    have hr:=hm.row _ hi
    unfold G
    rw [hLg i hi,gy (by omega)]
  have g2:∀ i,i < n→G p L i n=if i=0 then 1 else 0:=fun i hi=>by
    have hr:=hm.row _ hi
    unfold G
    rw [hLg i hi,Cx (j:=0) (by omega),hEg i hi _ h0]
    split
    · rfl
    · exact nG
  have one:(1:Fin p)≠0:=fun h=>by
    have h2:o p 1=o p 0:=h.trans nG.symm
    have:=sG (p:=p) (by omega) (by omega) h2
    omega
  have full:=red.full one (by
    obtain ⟨y,hy⟩:=hex
    exact ⟨y,fun i hi=>by rw [j0 (b:=G p m i) (fun j hj=>g1 i hi j hj),hy i hi,g2 i hi]⟩) (fun y hy=>inj y fun i hi=>by rw [← j0 (a:=G p L i) (fun j hj=>g1 i hi j hj)];exact hy i hi)
  have en:((n:Nat):Int)=((n:Nat):Int):=rfl
  unfold jl mI
  rw [hm.len,dT (by omega),cT,Ce hm h0,bS,cT,As hm h0,bS,eT rfl,bS,nT,cF,Nat.sub_zero,e1,bS,e2,bS,full,dF (by omega),cF,m2.len,Nat.sub_zero,qq (fun k=>((w.zm.getD k []).drop ((n:Nat):Int).toNat).take ((((n+n:Nat):Int)).toNat - ((n:Nat):Int).toNat)) (fun k l hk hl=>by
    unfold l0
    rw [m2.some hk,bS,m2.row _ hk,hm.len,m7 (by omega) (by omega) (by rw [m2.row _ hk];omega),bS,ei (by simp only [List.length_cons,List.length_nil];omega) (by simp only [List.length_cons,List.length_nil];omega),bS]),bS]
  exact ⟨_,rfl⟩
end
theorem sC (s:aL) (bad:List Int):ct s bad=some true:=by
  unfold ct
  rw [Gi,bS,nT,cF,ng (by omega) (by omega) (by omega) (by omega),bS]
  by_cases h1:s.N < 4
  · rw [dT h1,cT,bS,cT]
  · rw [dF h1,cF]
    by_cases h2:s.N > 13
    · rw [dT h2,cT,bS,cT]
    · rw [dF h2,cF]
      by_cases h3:((bad.length:Nat):Int) > 4
      · rw [dT h3,bS,cT]
      · rw [dF h3,bS,cF,m7 (by omega) (by omega) (by simp;omega),bS]
        generalize ((List.replicate (13:Int).toNat ([]:List Nat)).drop (0:Int).toNat).take (s.N.toNat - (0:Int).toNat)=l2
        obtain ⟨b,eb,hb⟩:=AA (w:=(⟨s,bad,([]:List aF),l2⟩:ac)) (lies:=((0:Nat):Int)) (words:=((0:Nat):Int)) (fun x hx=>by cases hx) (by omega) (by omega)
        rw [eb,bS]
        cases b
        · rw [nF,cT,bS,cT]
        · obtain ⟨n,t,v,_⟩:=hb rfl
          rw [nT,cF]
          by_cases h4:((bad.length:Nat):Int)=s.T
          · have hp:iq s.P:=v.sup
            have:NeZero s.P:=hp.ne
            have hlt:=hp.lt
            have hN:s.N=((n:Nat):Int):=v.N
            have hT:s.T=((t:Nat):Int):=v.T
            have n4:=v.n4
            have n13:=v.n13
            have t1:=v.t1
            have t3:=v.t3
            have hcl:bad.length=t:=by omega
            have hL:(jI (⟨s,bad,([]:List aF),l2⟩:ac) n).length=n - t:=vi v hcl
            have e0:((n:Nat):Int) - ((t:Nat):Int)=((n - t:Nat):Int):=by omega
            obtain ⟨H,eH,H1,H2,H3⟩:=B0 hp (r:=n - t) (n:=n) (zY n (by omega) n4) (by omega) (by omega) (by omega) n13 (by omega)
            have hrow:ea (fun k1 (st:(List (List Nat)))=>bm s bad l2 (H,((0:Nat):Int)) k1 st) (n - t) 0 ([]:List (List Nat))=some ((List.range (n - t)).map fun i=>(jI (⟨s,bad,([]:List aF),l2⟩:ac) n).map fun d=>(H.getD i []).getD d 0):=qq _ (fun i l hi hl=>by
              have hr:=(H2 i hi).1
              unfold bm
              obtain ⟨r,er,hr2⟩:=sa (step:=fun (st:(List Nat) × Int)=>bf s bad l2 (H,((0:Nat):Int)) i st.1 st.2) (fun st=>∃ k,k≤n∧st=((jI (⟨s,bad,([]:List aF),l2⟩:ac) k).map fun d=>(H.getD i []).getD d 0,((k:Nat):Int))) (fun r=>r=(jI (⟨s,bad,([]:List aF),l2⟩:ac) n).map fun d=>(H.getD i []).getD d 0) (fun st=>n - st.2.toNat) (fun st ⟨k,hk,hst⟩=>by
                subst hst
                have hle:(jI (⟨s,bad,([]:List aF),l2⟩:ac) k).length≤k:=Dy
                simp only
                unfold bf
                simp only
                rw [hN]
                by_cases g:k < n
                · rw [dT (by omega),cT,ix [] (by omega),bS,hr,dT (by omega),bS,cT,lk (by omega) (by omega),bS,xM,bS]
                  by_cases gc:(((k:Nat):Int)+1) ∉ bad
                  · rw [dT gc,cT,bS,qj 0 (by omega) (by omega),bS,Int.toNat_natCast,ei (by simp only [List.length_map,List.length_cons,List.length_nil];omega) (by simp only [List.length_map,List.length_cons,List.length_nil];omega),bS]
                    refine ⟨_,rfl,⟨k+1,g,?_⟩,by simp only;omega⟩
                    rw [oD,if_pos gc,List.map_append];rfl
                  · rw [dF gc,cF]
                    refine ⟨_,rfl,⟨k+1,g,?_⟩,by simp only;omega⟩
                    rw [oD,if_neg gc,List.append_nil];rfl
                · have:k=n:=by omega
                  subst this
                  rw [dF (by omega),cF,bS,cF]
                  exact ⟨_,rfl,rfl⟩) (s:=([],((0:Nat):Int))) ⟨0,by omega,rfl⟩ (by simp only;omega)
              rw [er,bS,hr2,ei (by simp only [List.length_cons,List.length_nil];omega) (by simp only [List.length_cons,List.length_nil];omega),bS])
            rw [qF h4,bS,cF,hN,hT,tL (by omega) (by omega),bS,e0,eH,bS]
            simp only [bne_self_eq_false]
            rw [cF,H1,Nat.sub_zero]
            generalize hA:((List.range (n - t)).map fun i=>(jI (⟨s,bad,([]:List aF),l2⟩:ac) n).map fun d=>(H.getD i []).getD d 0)=A at hrow
            have hAg:∀ i,i < n - t→A.getD i []=(jI (⟨s,bad,([]:List aF),l2⟩:ac) n).map fun d=>(H.getD i []).getD d 0:=fun i hi=>by rw [← hA,vo hi]
            have hAe:∀ i,i < n - t→∀ q,q < n - t→(A.getD i []).getD q 0=(H.getD i []).getD ((jI (⟨s,bad,([]:List aF),l2⟩:ac) n).getD q 0) 0:=fun i hi q hq=>by
              rw [hAg i hi,List.getD_eq_getElem?_getD,List.getElem?_map,ix 0 (by omega)];rfl
            have hMat:qI s.P (n - t) (n - t) A:=⟨by rw [← hA];simp,fun i hi=>by rw [hAg i hi,List.length_map,hL],fun i hi q hq=>by rw [hAe i hi q hq];exact Lt.get hp.pos (H2 i hi).2 _⟩
            have hdot:∀ i,i < n - t→∀ y:Nat→Fin s.P,dot (n - t) (G s.P A i) y=sm (jI (⟨s,bad,([]:List aF),l2⟩:ac) n).length (fun q=>o s.P ((H.getD i []).getD ((jI (⟨s,bad,([]:List aF),l2⟩:ac) n).getD q 0) 0)*y q):=fun i hi y=>by
              rw [hL]
              exact fB fun q hq=>by unfold G;rw [hAe i hi q hq]
            obtain ⟨kz,y,hy⟩:=vl v hcl (H:=H) (fun i hi k hk=>H3 i hi k hk)
            obtain ⟨l,el⟩:=wh hp hMat (by omega) (by omega) ⟨y,fun i hi=>by rw [hdot i hi];exact hy i hi⟩ (fun y hy=>kz y fun i hi=>by rw [← hdot i hi];exact hy i hi)
            have hrow:ea (fun k1 (st:(List (List Nat)))=>bm s bad l2 (H,0) k1 st) (n - t) 0 ([]:List (List Nat))=some A:=hrow
            rw [hrow,bS,el,bS];rfl
          · rw [qT h4,bS,cT]
end Pu
