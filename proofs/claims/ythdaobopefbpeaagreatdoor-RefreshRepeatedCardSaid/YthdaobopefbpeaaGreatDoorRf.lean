/- Plain laws of opening rows. -/
import Derived.Test.YthdaobopefbpeaaGreatDoorPk
import Derived.Test.YthdaobopefbpeaaGreatDoorPl
set_option linter.unusedVariables false
namespace Pu
open Gw Gl Sp Lean.Grind
/-- decoding what was heard: the honest parties' polynomial, and who lied -/
theorem FE {w:ae} {n t L:Nat} [NeZero w.S.P] (s:Sc w n t) {all:List (List (List Nat))} (sq:Sq w.S.P n L all) {j k:Nat} (hj:j < n) {f0:List Nat} (hf:f0.length≤t+1)
    (hh:∀ i,i < n→(((i:Nat):Int)+1) ∉ w.ah→o w.S.P (((all.getD i []).getD j []).getD k 0)=bU (P w.S.P f0) (o w.S.P (i+1))) :
    ∃ pts f at_,dX (wd all n j k)=some pts∧dY w.S.P pts w.S.T w.S.T=some (f,at_,0)∧Lt w.S.P f∧f.length≤t+1∧(∀ i,o w.S.P (f.getD i 0)=o w.S.P (f0.getD i 0)) ∧
      at_=((List.range n).filter fun i=>decide (bU (P w.S.P f0) (o w.S.P (i+1))≠o w.S.P (((all.getD i []).getD j []).getD k 0))).map fun i=>((i:Nat):Int):=by
  have hp:=s.sup
  have h13:=s.n13
  have h3:=s.t3
  have hwl:(wd all n j k).length=n:=Cj
  have hwp:Lt w.S.P (wd all n j k):=fun i hi=>by
    rw [hwl] at hi
    rw [Ci hi]
    exact (sq.w i hi j hj).1.get hp.pos k
  obtain ⟨pts,ep,p1,p2⟩:=yy (w:=wd all n j k) (by omega)
  have hP:=Gu hp hwp (by omega) p1 p2
  have hw:lR w.S.P pts f0=(List.range n).filter fun i=>decide (bU (P w.S.P f0) (o w.S.P (i+1))≠o w.S.P (((all.getD i []).getD j []).getD k 0)):=by
    unfold lR
    rw [p1,hwl]
    apply List.filter_congr
    intro i hi
    have hi':i < n:=by simpa using hi
    rw [p2 i (by omega),Ci hi']
  have hc:(lR w.S.P pts f0).length≤t:=by
    rw [hw,← List.length_map (f:=fun i=>((i:Nat):Int)+1)]
    refine Nat.le_trans (xk ?_ fun x hx=>?_) s.cl
    · rw [List.Nodup,List.pairwise_map]
      exact List.Pairwise.imp (fun {a b} h=>by omega) (List.Pairwise.filter _ List.nodup_range)
    · obtain ⟨i,hi,rfl⟩:=List.mem_map.1 hx
      have hi2:=List.mem_filter.1 hi
      have hi':i < n:=by simpa using hi2.1
      apply Classical.byContradiction
      intro g
      have:=hh i hi' g
      simp only [decide_eq_true_eq] at hi2
      exact hi2.2 this.symm
  obtain ⟨f,at_,e,ed,f1,f2,_,hgood⟩:=ym (deg:=t) (w:=t) hp hP (by omega) (by omega)
  obtain ⟨rfl,g2,g3⟩:=hgood f0 hf hc
  rw [s.T]
  exact ⟨pts,f,at_,ep,ed,f1,f2,g2,by rw [g3,hw]⟩
theorem M6 {a b:List Nat} (h:a.length+b.length≤1000):db [a,b] 0 ((0:Nat):Int)=some (a.length:Int):=by
  have g0:[a,b].getD 0 []=a:=rfl
  have z:((0:Nat):Int)+(a.length:Int)=(a.length:Int):=by omega
  unfold db
  rw [ix [] (by simp),bS,g0,bh (by omega) (by omega),bS,z,dF (by omega),cF]
theorem M7 {a b:List Nat} (h:a.length+b.length≤1000):db [a,b] 1 (a.length:Int)=some ((a.length+b.length:Nat):Int):=by
  have g0:[a,b].getD 1 []=b:=rfl
  have z:(a.length:Int)+(b.length:Int)=((a.length+b.length:Nat):Int):=by omega
  unfold db
  rw [ix [] (by simp),bS,g0,bh (by omega) (by omega),bS,z,dF (by omega),cF]
theorem FB {m:Nat} (h:m≤1000):eA ((m:Nat):Int)=some []:=by
  unfold eA
  rw [dF (by omega),cF,cD (by omega) (by omega),bS]
  by_cases g:0 < m
  · rw [dT (by omega),cT,cc (by omega) (by omega) (by omega) (by omega),bS,ie (by omega) (by omega) (by omega),bS,Nat.sub_self,List.take_zero]
  · rw [dF (by omega),cF]
theorem M8 {a b:List Nat} (h:a.length+b.length≤1000):dc [a,b] 0 []=some a:=by
  have g0:[a,b].getD 0 []=a:=rfl
  unfold dc
  rw [ix [] (by simp),bS,g0,aI (by simp only [List.length_nil];omega) (by simp only [List.length_nil];omega),bS,List.nil_append]
theorem M9 {a b:List Nat} (h:a.length+b.length≤1000):dc [a,b] 1 a=some (a++b):=by
  have g0:[a,b].getD 1 []=b:=rfl
  unfold dc
  rw [ix [] (by simp),bS,g0,aI (by omega) (by omega),bS]
theorem NL {S:Type} {body:Nat→S→Option S} {a b c:S} (h0:body 0 a=some b) (h1:body 1 b=some c):du body 2 0 a=some c:=by
  simp only [du,h0,h1]
theorem BK {a b:List Nat} (h:a.length+b.length≤1000):eY [a,b]=some (a++b):=by
  have e0:[a,b].length - 0=2:=rfl
  unfold eY
  rw [e0,NL (M6 h) (M7 h),bS,FB h,bS,NL (M8 h) (M9 h),bS]
/-- what opening rows does -/
theorem rows_ok {net:ai} {n t m:Nat} [NeZero net.zw.S.P] (s:Sc net.zw n t) {w:List (List (List Nat))} {ats:List Int} (hm:m≤400) (h1:w.length=m) (hm0:0 < m) (h2:∀ k,k < m→(w.getD k []).length=n∧∀ i,i < n→((w.getD k []).getD i []).length≤100∧Lt net.zw.S.P ((w.getD k []).getD i []))
    (h3:ats.length=m) {a:Nat→Nat} (h4:∀ k,k < m→ats.getD k 0=((a k+1:Nat):Int)∧a k < n) (hv:net.av.length=n) (hb:∀ j,j < n→(net.av.getD j []).length≤500) (hr:0≤net.af∧net.af≤1000) :
    ∃ (lists:List (List Nat)) (all:List (List (List Nat))) (rows:List (List (List Nat))) (views:List (List ao)),iq net w ats=some (rows,net.af+1,views)∧(∀ i,i < n→(lists.getD i []).length=m∧∀ k,k < m→(lists.getD i []).getD k 0 < net.zw.S.P∧o net.zw.S.P ((lists.getD i []).getD k 0)=bU (P net.zw.S.P ((w.getD k []).getD i [])) (o net.zw.S.P (a k+1)))∧Sq net.zw.S.P n 400 all ∧
      (∀ i,i < n→(((i:Nat):Int)+1) ∉ net.zw.ah→∀ j,j < n→(all.getD i []).getD j []=lists.getD i [])∧rows.length=n∧views.length=n ∧
      (∀ j,j < n→(rows.getD j []).length=m∧∀ k,k < m→∃ pts f at_ e,dX (wd all n j k)=some pts∧dY net.zw.S.P pts net.zw.S.T net.zw.S.T=some (f,at_,e)∧Lt net.zw.S.P f∧f.length≤t+1∧(rows.getD j []).getD k []=f++List.replicate (t+1 - f.length) 0) ∧
      (∀ j,j < n→views.getD j []=net.av.getD j []++Aw net.af all j n):=by
  have hp:=s.sup
  have hlt:=hp.lt
  have h13:=s.n13
  have h4':=s.n4
  have h3t:=s.t3
  unfold iq bk
  rw [bS,s.N,cc (by omega) (by omega) (by omega) (by omega),bS,Int.toNat_natCast,h1,eF (by omega),cF,cc (by omega) (by omega) (by omega) (by omega),bS,Int.toNat_natCast,List.length_replicate,Nat.sub_zero]
  obtain ⟨lists,el,l1,l2,_⟩:=bg (body:=fun k1 (st:(List (List Nat)))=>lI w ats net.zw k1 st) (rem:=n) (k:=0) (s:=List.replicate n ([]:List Nat))
    (fun i l=>l.length=n∧(∀ i',i' < i→(l.getD i' []).length=m∧∀ k,k < m→(l.getD i' []).getD k 0 < net.zw.S.P∧o net.zw.S.P ((l.getD i' []).getD k 0)=bU (P net.zw.S.P ((w.getD k []).getD i' [])) (o net.zw.S.P (a k+1)))∧∀ i',i≤i'→l.getD i' []=[])
    ⟨by simp,fun i hi=>by omega,fun i _=>by by_cases g:i < n <;> simp [List.getD_eq_getElem?_getD,g]⟩ (fun i l _ hi ⟨l1,l2,l3⟩=>by
      have hin:i < n:=by omega
      unfold lI
      rw [Nat.sub_zero,h1]
      obtain ⟨r,er,r1,r2,r3,r4⟩:=bg (body:=fun k2 (st:(List (List Nat)))=>lJ w ats net.zw i k2 st) (rem:=m) (k:=0) (s:=l)
        (fun k r=>r.length=n∧(r.getD i []).length=k∧(∀ q,q < k→(r.getD i []).getD q 0 < net.zw.S.P∧o net.zw.S.P ((r.getD i []).getD q 0)=bU (P net.zw.S.P ((w.getD q []).getD i [])) (o net.zw.S.P (a q+1)))∧∀ i',i'≠i→r.getD i' []=l.getD i' [])
        ⟨l1,by rw [l3 i (Nat.le_refl i)];rfl,fun q hq=>by omega,fun _ _=>rfl⟩ (fun k r _ hk ⟨r1,r2,r3,r4⟩=>by
          have hkm:k < m:=by omega
          obtain ⟨w1,w2⟩:=h2 k hkm
          obtain ⟨w3,w4⟩:=w2 i hin
          obtain ⟨a1,a2⟩:=h4 k hkm
          have hu:q9 ((a k+1:Nat):Int)=a k+1:=by unfold q9;omega
          obtain ⟨y,ey,y1,y2⟩:=y8 hp (x:=a k+1) w4 (by omega) (by omega)
          unfold lJ
          rw [ix [] (by omega),bS,ix [] (by omega),bS,ix [] (by omega),bS,ix 0 (by omega),bS,a1,bS,hu,ey,bS,aI (by rw [r2];simp only [List.length_cons,List.length_nil];omega) (by rw [r2];simp only [List.length_cons,List.length_nil];omega),bS,bS]
          refine ⟨_,rfl,by rw [List.length_set];exact r1,?_,fun q hq=>?_,fun i' hi'=>?_⟩
          · rw [aL (by omega),if_pos rfl,List.length_append,r2];rfl
          · rw [aL (by omega),if_pos rfl]
            by_cases g:q < k
            · rw [cq (by omega)];exact r3 q g
            · have:q=k:=by omega
              subst this
              rw [cO r2.symm]
              exact ⟨y1,y2⟩
          · rw [aL (by omega),if_neg (fun e=>hi' e.symm)];exact r4 i' hi')
      rw [Nat.zero_add] at r2 r3
      rw [er,bS]
      refine ⟨_,rfl,r1,fun i' hi'=>?_,fun i' hi'=>?_⟩
      · by_cases g:i'=i
        · subst g;exact ⟨r2,r3⟩
        · rw [r4 i' g];exact l2 i' (by omega)
      · rw [r4 i' (by omega)];exact l3 i' (by omega))
  rw [Nat.zero_add] at l2
  obtain ⟨all,heard,views,es,a1,a2,a3,a4,a5,a6⟩:=JS (L:=400) (m:=m) s l1 (fun i hi=>⟨fun q hq=>by have:=l2 i hi;exact (this.2 q (by omega)).1,by rw [(l2 i hi).1];exact hm⟩) (by omega) (by omega) hv hb hr
  rw [el,bS,es,bS]
  simp only
  rw [a3,Nat.sub_zero]
  obtain ⟨rows,e,b1,b2,_⟩:=bg (body:=fun k3 (st:(List (List (List Nat))))=>lK net.zw (heard,net.af+1,views) k3 st) (rem:=n) (k:=0) (s:=List.replicate n ([]:List (List Nat)))
    (fun j r=>r.length=n∧(∀ j',j' < j→(r.getD j' []).length=m∧∀ k,k < m→∃ pts f at_ e,dX (wd all n j' k)=some pts∧dY net.zw.S.P pts net.zw.S.T net.zw.S.T=some (f,at_,e)∧Lt net.zw.S.P f∧f.length≤t+1∧(r.getD j' []).getD k []=f++List.replicate (t+1 - f.length) 0)∧∀ j',j≤j'→r.getD j' []=[])
    ⟨by simp,fun i hi=>by omega,fun i _=>by by_cases g:i < n <;> simp [List.getD_eq_getElem?_getD,g]⟩ (fun j r _ hj ⟨b1,b2,b3⟩=>by
      have hjn:j < n:=by omega
      obtain ⟨c1,c2⟩:=a4 j hjn
      unfold lK
      simp only
      rw [ix [] (by omega),bS,c1,Nat.sub_zero]
      obtain ⟨q,eq,q1,q2,q3,q4⟩:=bg (body:=fun k4 (st:(List (List (List Nat))))=>lL net.zw j (heard.getD j []) k4 st) (rem:=m) (k:=0) (s:=r)
        (fun k q=>q.length=n∧(q.getD j []).length=k∧(∀ k',k' < k→∃ pts f at_ e,dX (wd all n j k')=some pts∧dY net.zw.S.P pts net.zw.S.T net.zw.S.T=some (f,at_,e)∧Lt net.zw.S.P f∧f.length≤t+1∧(q.getD j []).getD k' []=f++List.replicate (t+1 - f.length) 0)∧∀ j',j'≠j→q.getD j' []=r.getD j' [])
        ⟨b1,by rw [b3 j (Nat.le_refl j)];rfl,fun q hq=>by omega,fun _ _=>rfl⟩ (fun k q _ hk ⟨q1,q2,q3,q4⟩=>by
          have hkm:k < m:=by omega
          have hwl:(wd all n j k).length=n:=Cj
          have hwp:Lt net.zw.S.P (wd all n j k):=fun i hi=>by
            rw [hwl] at hi
            rw [Ci hi]
            exact (a1.w i hi j hjn).1.get hp.pos k
          obtain ⟨pts,ep,p1,p2⟩:=yy (w:=wd all n j k) (by omega)
          have hP:=Gu hp hwp (by omega) p1 p2
          obtain ⟨f,at_,e,ed,f1,f2,_,_⟩:=ym (deg:=t) (w:=t) hp hP (by omega) (by omega)
          have et:((t:Nat):Int)+1=((t+1:Nat):Int):=by omega
          have ef:((t+1:Nat):Int) - (f.length:Int)=((t+1 - f.length:Nat):Int):=by omega
          unfold lL
          rw [ix [] (by omega),bS,c2 k hkm,ep,bS,s.T,ed,bS,ix [] (by omega),bS,bh (by omega) (by omega),bS,et]
          simp only
          rw [cD (by omega) (by omega),bS,ef,cc (by omega) (by omega) (by omega) (by omega),bS,Int.toNat_natCast,BK (by rw [List.length_replicate];omega),bS,aI (by rw [q2];simp only [List.length_cons,List.length_nil];omega) (by rw [q2];simp only [List.length_cons,List.length_nil];omega),bS,bS]
          refine ⟨_,rfl,by rw [List.length_set];exact q1,?_,fun k' hk'=>?_,fun j' hj'=>?_⟩
          · rw [aL (by omega),if_pos rfl,List.length_append,q2];rfl
          · rw [aL (by omega),if_pos rfl]
            by_cases g:k' < k
            · rw [cq (by omega)];have:=q3 k' g;rw [s.T] at this;exact this
            · have:k'=k:=by omega
              subst this
              rw [cO q2.symm]
              exact ⟨pts,f,at_,e,ep,ed,f1,f2,rfl⟩
          · rw [aL (by omega),if_neg (fun e=>hj' e.symm)];exact q4 j' hj')
      rw [Nat.zero_add] at q2 q3
      rw [eq,bS]
      refine ⟨_,rfl,q1,fun j' hj'=>?_,fun j' hj'=>?_⟩
      · by_cases g:j'=j
        · subst g;exact ⟨q2,q3⟩
        · rw [q4 j' g];exact b2 j' (by omega)
      · rw [q4 j' (by omega)];exact b3 j' (by omega))
  rw [Nat.zero_add] at b2
  rw [e,bS]
  exact ⟨lists,all,rows,views,rfl,l2,a1,a2,b1,a5,b2,a6⟩
end Pu

/- Plain laws of interpolating symmetric polynomials. -/
set_option linter.unusedVariables false
namespace Pu
open Gw Gl Sp
theorem Nb {a b:List Nat} {n:Nat} (h1:a.length=n) (h2:b.length=n) (h:∀ i,i < n→a.getD i 0=b.getD i 0):a=b:=by
  apply List.ext_getElem?
  intro i
  by_cases g:i < n
  · rw [ix 0 (by omega),ix 0 (by omega),h i g]
  · rw [List.getElem?_eq_none (by omega),List.getElem?_eq_none (by omega)]
theorem y4 {l:List Nat} {v:Nat} (h:∀ i,i < l.length→l.getD i 0≠v):en l v=some false:=by
  unfold en gY
  rw [Nat.sub_zero]
  obtain ⟨o,e,ho⟩:=eK (body:=fun k1 (st:Unit)=>fR l v k1) (fun k _=>True) (fun _=>False) (rem:=l.length) (k:=0) (s:=()) trivial (fun k _ _ hk _=>by
    have hkl:k < l.length:=by omega
    unfold fR
    rw [ix 0 hkl,bS,eF (fun g=>h k hkl (by omega)),cF]
    exact ⟨_,rfl,trivial⟩)
  rw [e,bS]
  cases o with
  | fin r=>exact ho.elim
  | go s=>rw [oG,bS,dF (by omega)]
theorem DF (a:List Nat):fc a a=some true:=by
  unfold fc
  rw [qF rfl,cF,Nat.sub_zero]
  obtain ⟨o,e,ho⟩:=eK (body:=fun k1 (st:Unit)=>fQ a a k1) (fun k _=>True) (fun _=>False) (rem:=a.length) (k:=0) (s:=()) trivial (fun k _ _ hk _=>by
    unfold fQ
    rw [ix 0 (show k < a.length by omega),bS,bS,qF rfl,cF]
    exact ⟨_,rfl,trivial⟩)
  rw [e,bS]
  cases o with
  | fin r=>exact ho.elim
  | go s=>rw [oG]
theorem dt {α:Type} {n i:Nat} {v:Nat→α} {d:α} (h:i < n):((List.range n).map v).getD i d=v i:=by
  rw [List.getD_eq_getElem?_getD,List.getElem?_map,List.getElem?_range h];rfl
theorem dJ {α:Type} {n:Nat} {v:Nat→α}:((List.range n).map v).length=n:=by simp
theorem Dt {n i:Nat} {f:List Nat} (h:f.length≤n):(uj (List.replicate n 0) f).length=n∧(uj (List.replicate n 0) f).getD i 0=f.getD i 0:=by
  unfold uj
  rw [List.length_replicate,Nat.min_eq_left h,List.take_length,List.drop_replicate]
  refine ⟨by simp;omega,?_⟩
  rw [List.getD_eq_getElem?_getD,List.getD_eq_getElem?_getD]
  by_cases g:i < f.length
  · rw [List.getElem?_append_left g]
  · rw [List.getElem?_append_right (by omega),List.getElem?_eq_none (show f.length≤i by omega),List.getElem?_replicate]
    split <;> rfl
section
variable {p:Nat} [NeZero p]
theorem ta (hp:fG p) {X:Nat→Fin p} {n:Nat} (ne:∀ i j,i < n→j < n→i≠j→X i≠X j) {f g:List (Fin p)} (hf:f.length≤n) (hg:g.length≤n) (h:∀ i,i < n→bU f (X i)=bU g (X i)) (i:Nat):cf f i=cf g i:=by
  refine qJ hp.nz (xs:=(List.range n).map X) ?_ (by simpa using hf) (by simpa using hg) (fun x hx=>?_) i
  · rw [List.Nodup,List.pairwise_iff_getElem]
    intro i j hi hj hij
    simp only [List.length_map,List.length_range] at hi hj
    simp only [List.getElem_map,List.getElem_range]
    exact ne i j hi hj (by omega)
  · obtain ⟨i,hi,rfl⟩:=List.mem_map.1 hx
    exact h i (by simpa using hi)
theorem y9 (f:List (Fin p)):bU f 0=cf f 0:=by
  cases f with
  | nil=>rfl
  | cons a t=>rw [bU,oP];grind
/-- the coefficients in x of the columns c at y -/
def wm (c:Nat→List Nat) (m:Nat) (y:Fin p):List (Fin p):=(List.range m).map fun a=>sm m fun j=>o p ((c j).getD a 0)*y ^ j
theorem xG {c:Nat→List Nat} {m:Nat} (hc:∀ j,j < m→(c j).length=m) (y x:Fin p):bU (wm c m y) x=sm m fun j=>bU (P p (c j)) x*y ^ j:=by
  rw [uG (n:=m) x (by unfold wm;simp)]
  have e1:sm m (fun j=>cf (wm c m y) j*x ^ j)=sm m fun a=>sm m fun j=>o p ((c j).getD a 0)*y ^ j*x ^ a:=b8 fun a ha=>by
    show (wm c m y).getD a 0*x ^ a=_
    unfold wm
    rw [dt ha]
    have:∀ z:Fin p,sm m (fun j=>o p ((c j).getD a 0)*y ^ j)*z=z*sm m (fun j=>o p ((c j).getD a 0)*y ^ j):=fun z=>by grind
    rw [this,← my]
    exact b8 fun j _=>by grind
  rw [e1,vC]
  exact b8 fun j hj=>by
    rw [oI (n:=m) (by rw [hc j hj];exact Nat.le_refl m)]
    have:∀ z:Fin p,sm m (fun a=>o p ((c j).getD a 0)*x ^ a)*z=z*sm m (fun a=>o p ((c j).getD a 0)*x ^ a):=fun z=>by grind
    rw [this,← my]
    exact b8 fun a _=>by grind
theorem AU {c:Nat→List Nat} {m:Nat} {y:Fin p}:(wm c m y).length=m:=by unfold wm;simp
theorem JA {c:Nat→List Nat} {m a:Nat} {y:Fin p} (h:a < m):cf (wm c m y) a=sm m fun j=>o p ((c j).getD a 0)*y ^ j:=by
  show (wm c m y).getD a 0=_
  unfold wm
  rw [dt h]
/-- rows at places that belong together -/
structure Gd (p:Nat) [NeZero p] (xs:List Nat) (rows:List (List Nat)) (t N:Nat):Prop where
  xl:xs.length=N
  rl:rows.length=N
  tN:t+1≤N
  N7:N≤7
  t2:t≤2
  x:∀ i,i < N→0 < xs.getD i 0∧xs.getD i 0 < p
  ne:∀ i j,i < N→j < N→i≠j→xs.getD i 0≠xs.getD j 0
  w:∀ i,i < N→(rows.getD i []).length=t+1∧Lt p (rows.getD i [])
  cs:∀ i,i < N→∀ j,j < N→bU (P p (rows.getD i [])) (o p (xs.getD j 0))=bU (P p (rows.getD j [])) (o p (xs.getD i 0))
  sp:∀ y:Fin p,∃ g:List (Fin p),g.length≤t+1∧∀ i,i < N→bU (P p (rows.getD i [])) y=bU g (o p (xs.getD i 0))
variable {xs:List Nat} {rows:List (List Nat)} {t N:Nat}
theorem Jz (hp:fG p) (g:Gd p xs rows t N):nP ((t:Nat):Int) xs rows=some true:=by
  obtain ⟨xl,rl,tN,N7,t2,hx,ne,hw,cs,sp⟩:=g
  have e1:((t:Nat):Int)+1=((t+1:Nat):Int):=by omega
  unfold nP
  rw [dF (by omega),cF,qF (by omega),cF,bh (by omega) (by omega),bS,dF (by omega),bS,cF,Nat.sub_zero,xl]
  obtain ⟨o,e,ho⟩:=eK (body:=fun k1 (st:Unit)=>ny ((t:Nat):Int) xs rows k1) (fun k _=>True) (fun _=>False) (rem:=N) (k:=0) (s:=()) trivial (fun k _ _ hk _=>by
    have hkl:k < N:=by omega
    unfold ny
    rw [ix 0 (by omega),bS,ie (by omega) (by omega) (by omega),bS,y4 (fun i hi=>by
      simp only [Int.toNat_natCast,Int.toNat_zero,List.drop_zero,Nat.sub_zero,List.length_take] at hi ⊢
      have:(List.take k xs).getD i 0=xs.getD i 0:=by rw [List.getD_eq_getElem?_getD,List.getD_eq_getElem?_getD,List.getElem?_take_of_lt (by omega)]
      rw [this]
      exact ne i k (by omega) hkl (by omega)),bS,cF,ix [] (by omega),bS,bh (by omega) (by omega),bS,qF (by rw [(hw k hkl).1];omega),cF]
    exact ⟨_,rfl,trivial⟩)
  rw [e,bS]
  cases o with
  | fin r=>exact ho.elim
  | go s=>rw [oG]
theorem BH (hp:fG p) (g:Gd p xs rows t N) {j:Nat} (hj:j < t+1):∃ c,jt p ((t:Nat):Int) xs rows ((j:Nat):Int)=some (c,0)∧c.length=t+1∧Lt p c∧∀ i,i < t+1→bU (P p c) (o p (xs.getD i 0))=o p ((rows.getD i []).getD j 0):=by
  obtain ⟨xl,rl,tN,N7,t2,hx,ne,hw,cs,sp⟩:=g
  have e1:((t:Nat):Int)+1=((t+1:Nat):Int):=by omega
  have e2:(max 0 (((t+1:Nat):Int))).toNat=t+1:=by omega
  have e2':max 0 (((t+1:Nat):Int).toNat)=t+1:=by omega
  unfold jt
  rw [bh (by omega) (by omega),bS,e1,e2',bP (by omega),bS,Nat.sub_zero,gN (fun i=>(⟨xs.getD i 0,(rows.getD i []).getD j 0⟩:aJ)) (fun k l hk hl=>by
    unfold oH
    rw [ix 0 (by omega),bS,ix [] (by omega),bS,aU 0 (by omega) (by rw [(hw k (by omega)).1];omega),bS,Int.toNat_natCast,aI (by simp only [List.length_cons,List.length_nil];omega) (by simp only [List.length_cons,List.length_nil];omega),bS]),bS]
  obtain ⟨g,eg,g1,g2,g3⟩:=DT (pts:=(List.range (t+1)).map fun i=>(⟨xs.getD i 0,(rows.getD i []).getD j 0⟩:aJ)) (X:=fun i=>xs.getD i 0) (Y:=fun i=>(rows.getD i []).getD j 0) hp ⟨fun i hi=>by
    rw [dJ] at hi
    rw [List.getElem?_map,List.getElem?_range hi];rfl,fun i hi=>by
    rw [dJ] at hi
    exact ⟨(hx i (by omega)).1,(hx i (by omega)).2,(hw i (by omega)).2.get hp.pos j⟩,fun i j hi hj h=>by
    rw [dJ] at hi hj
    exact ne i j (by omega) (by omega) h⟩ (by rw [dJ];omega) (by rw [dJ];omega)
  rw [dJ] at g2 g3
  rw [eg,bS,cc (by omega) (by omega) (by omega) (by omega),bS,Int.toNat_natCast]
  have hc:=fun i=>Dt (i:=i) g2
  refine ⟨_,rfl,(hc 0).1,fun i hi=>by rw [(hc i).2];exact g1.get hp.pos i,fun i hi=>?_⟩
  rw [← g3 i hi]
  exact j9 (fun k=>by rw [ln,ln,(hc k).2]) _
/-- the matrix of the columns -/
def Al (c:Nat→List Nat) (m:Nat):List (List Nat):=(List.range m).map fun i=>(List.range m).map fun j=>(c j).getD i 0
theorem ss {c:Nat→List Nat} {m i j:Nat} (hi:i < m) (hj:j < m):((Al c m).getD i []).getD j 0=(c j).getD i 0:=by
  unfold Al
  rw [dt hi,dt hj]
theorem Mm {S:List (List Nat)} {m:Nat} (hm:0 < m) (hl:S.length=m) (hr:∀ i,i < m→(S.getD i []).length=m) (h:∀ i,i < m→∀ j,j < m→(S.getD i []).getD j 0=(S.getD j []).getD i 0) (hm9:m≤100):iD S=some true:=by
  unfold iD
  rw [hl,Nat.sub_zero]
  obtain ⟨o,e,ho⟩:=eK (body:=fun k1 (st:Unit)=>i4 S k1) (fun k _=>True) (fun _=>False) (rem:=m) (k:=0) (s:=()) trivial (fun k _ _ hk _=>by
    unfold i4
    rw [ix [] (by omega),bS,qF (by rw [hr k (by omega),hl]),cF]
    exact ⟨_,rfl,trivial⟩)
  rw [e,bS]
  cases o with
  | fin r=>exact ho.elim
  | go s =>
    rw [oG]
    obtain ⟨o,e,ho⟩:=eK (body:=fun k2 (st:Unit)=>i5 S k2) (fun k _=>True) (fun _=>False) (rem:=m) (k:=0) (s:=()) trivial (fun k _ _ hk _=>by
      unfold i5
      rw [ix [] (by omega),bS,bP (by omega),bS,Nat.sub_zero]
      obtain ⟨o,e,ho⟩:=eK (body:=fun k3 (st:Unit)=>i6 S k (S.getD k []) k3) (fun k _=>True) (fun _=>False) (rem:=k) (k:=0) (s:=()) trivial (fun j _ _ hj _=>by
        unfold i6
        rw [ix 0 (by rw [hr k (by omega)];omega),bS,ix [] (by omega),bS,ix 0 (by rw [hr j (by omega)];omega),bS,h k (by omega) j (by omega),qF rfl,cF]
        exact ⟨_,rfl,trivial⟩)
      rw [e,bS]
      cases o with
      | fin r=>exact ho.elim
      | go s=>rw [oG];exact ⟨_,rfl,trivial⟩)
    rw [e,bS]
    cases o with
    | fin r=>exact ho.elim
    | go s=>rw [oG,dT (by omega)]
/-- interpolating rows that belong together -/
theorem BW (hp:fG p) (g:Gd p xs rows t N):∃ S,iC p ((t:Nat):Int) xs rows=some (S,0)∧S.length=t+1∧(S.getD 0 []).length=t+1∧(S.getD 0 []).getD 0 0 < p∧∀ h:List (Fin p),h.length≤t+1→(∀ i,i < N→bU (P p (rows.getD i [])) 0=bU h (o p (xs.getD i 0)))→o p ((S.getD 0 []).getD 0 0)=bU h 0:=by
  have hlt:=hp.lt
  have e1:((t:Nat):Int)+1=((t+1:Nat):Int):=by omega
  have hcol:=fun j (hj:j < t+1)=>BH hp g hj
  have hmay:=Jz hp g
  obtain ⟨xl,rl,tN,N7,t2,hx,ne,hw,cs,sp⟩:=g
  have hex:∀ j,∃ c,j < t+1→jt p ((t:Nat):Int) xs rows ((j:Nat):Int)=some (c,0)∧c.length=t+1∧Lt p c∧∀ i,i < t+1→bU (P p c) (o p (xs.getD i 0))=o p ((rows.getD i []).getD j 0):=fun j=>by
    by_cases h:j < t+1
    · obtain ⟨c,hc⟩:=hcol j h
      exact ⟨c,fun _=>hc⟩
    · exact ⟨[],fun h'=>absurd h' h⟩
  obtain ⟨c,hc⟩:=Classical.axiomOfChoice hex
  have neX:∀ i j,i < t+1→j < t+1→i≠j→o p (xs.getD i 0)≠o p (xs.getD j 0):=fun i j hi hj h e=>ne i j (by omega) (by omega) h (oJ (hx i (by omega)).2 (hx j (by omega)).2 e)
  have hcl:∀ j,j < t+1→(c j).length=t+1:=fun j hj=>(hc j hj).2.1
  have rowE:∀ i,i < N→∀ y,bU (P p (rows.getD i [])) y=sm (t+1) fun j=>o p ((rows.getD i []).getD j 0)*y ^ j:=fun i hi y=>oI (by rw [(hw i hi).1];exact Nat.le_refl _) y
  -- the columns at every place
  have col:∀ i,i < N→∀ j,j < t+1→bU (P p (c j)) (o p (xs.getD i 0))=o p ((rows.getD i []).getD j 0):=fun i hi j hj=>by
    have all:∀ y,bU (wm c (t+1) y) (o p (xs.getD i 0))=bU (P p (rows.getD i [])) y:=fun y=>by
      obtain ⟨g,gl,gh⟩:=sp y
      have hcf:=ta hp neX (f:=wm c (t+1) y) (g:=g) (by rw [AU];exact Nat.le_refl _) gl (fun k hk=>by
        rw [xG hcl,← gh k (by omega),rowE k (by omega)]
        exact b8 fun j hj=>by rw [(hc j hj).2.2.2 k hk])
      rw [j9 hcf,gh i hi]
    have h2:=ta hp neX (f:=(List.range (t+1)).map fun j=>bU (P p (c j)) (o p (xs.getD i 0))) (g:=P p (rows.getD i [])) (by simp) (by rw [lD,(hw i hi).1];exact Nat.le_refl _) (fun k hk=>by
      rw [← all,xG hcl,uG (n:=t+1) _ (by simp)]
      exact b8 fun j hj=>by
        show ((List.range (t+1)).map fun j=>bU (P p (c j)) (o p (xs.getD i 0))).getD j 0*_=_
        rw [dt hj]) j
    rw [ln] at h2
    rw [← h2]
    show _=((List.range (t+1)).map fun j=>bU (P p (c j)) (o p (xs.getD i 0))).getD j 0
    rw [dt hj]
  have sym:∀ a,a < t+1→∀ b,b < t+1→(c b).getD a 0=(c a).getD b 0:=fun a ha b hb=>by
    have h1:∀ i,i < t+1→bU (P p (c b)) (o p (xs.getD i 0))=bU (P p ((List.range (t+1)).map fun a=>(c a).getD b 0)) (o p (xs.getD i 0)):=fun i hi=>by
      have h2:=ta hp neX (f:=wm c (t+1) (o p (xs.getD i 0))) (g:=P p (rows.getD i [])) (by rw [AU];exact Nat.le_refl _) (by rw [lD,(hw i (by omega)).1];exact Nat.le_refl _) (fun k hk=>by
        rw [xG hcl,cs i (by omega) k (by omega),rowE k (by omega)]
        exact b8 fun j hj=>by rw [col k (by omega) j hj]) b
      rw [ln,JA hb] at h2
      rw [col i (by omega) b hb,← h2,oI (n:=t+1) (by simp)]
      exact b8 fun a ha=>by rw [dt ha]
    have h3:=ta hp neX (f:=P p (c b)) (g:=P p ((List.range (t+1)).map fun a=>(c a).getD b 0)) (by rw [lD,hcl b hb];exact Nat.le_refl _) (by rw [lD];simp) h1 a
    rw [ln,ln,dt ha] at h3
    exact oJ ((hc b hb).2.2.1.get hp.pos a) ((hc a ha).2.2.1.get hp.pos b) h3
  have hS:qq p (t+1) (t+1) (Al c (t+1)):=⟨by unfold Al;simp,fun i hi=>by unfold Al;rw [dt hi];simp,fun i hi j hj=>by rw [ss hi hj];exact (hc j hj).2.2.1.get hp.pos i⟩
  unfold iC
  rw [hmay,bS,nT,cF,bh (by omega) (by omega),bS,e1,cc (by omega) (by omega) (by omega) (by omega),bS,Int.toNat_natCast,List.length_replicate,Nat.sub_zero]
  obtain ⟨o1,eo,ho⟩:=eK (body:=fun k1 (st:(List (List Nat)))=>iX p ((t:Nat):Int) xs rows k1 st) (fun k l=>l=(List.range (t+1)).map fun i=>(List.range k).map fun j=>(c j).getD i 0) (fun _=>False) (rem:=t+1) (k:=0) (s:=List.replicate (t+1) [])
    (by
      apply List.ext_getElem
      · simp
      · intro i h1 h2
        simp) (fun k l _ hk hl=>by
    have hkt:k < t+1:=by omega
    obtain ⟨e2,c1,c2,_⟩:=hc k hkt
    have hll:l.length=t+1:=by rw [hl];simp
    unfold iX
    rw [e2,bS]
    simp only
    rw [qF rfl,cF,hll,Nat.sub_zero]
    obtain ⟨r,er,r1,r2,r3⟩:=bg (body:=fun k2 (st:(List (List Nat)))=>iY (c k,0) k2 st) (rem:=t+1) (k:=0) (s:=l)
      (fun q r=>r.length=t+1∧(∀ i,i < q→r.getD i []=(List.range (k+1)).map fun j=>(c j).getD i 0)∧∀ i,q≤i→i < t+1→r.getD i []=(List.range k).map fun j=>(c j).getD i 0)
      ⟨hll,fun i hi=>by omega,fun i _ hi=>by rw [hl,dt hi]⟩ (fun q r _ hq ⟨r1,r2,r3⟩=>by
        have hqt:q < t+1:=by omega
        have hq0:=r3 q (Nat.le_refl q) hqt
        have hql:(r.getD q []).length=k:=by rw [hq0];simp
        unfold iY
        rw [ix [] (by omega),bS]
        simp only
        rw [ix 0 (by omega),bS,aI (by rw [hql];simp only [List.length_cons,List.length_nil];omega) (by rw [hql];simp only [List.length_cons,List.length_nil];omega),bS,bS]
        refine ⟨_,rfl,by rw [List.length_set];exact r1,fun i hi=>?_,fun i hi hit=>?_⟩
        · rw [aL (by omega)]
          by_cases g:q=i
          · rw [if_pos g,← g,hq0,List.range_succ,List.map_append];rfl
          · rw [if_neg g];exact r2 i (by omega)
        · rw [aL (by omega),if_neg (by omega)];exact r3 i (by omega) hit)
    rw [Nat.zero_add] at r2
    rw [er,bS]
    refine ⟨_,rfl,?_⟩
    apply List.ext_getElem?
    intro i
    by_cases g:i < t+1
    · rw [ix [] (by omega),r2 i g,List.getElem?_map,List.getElem?_range g];rfl
    · rw [List.getElem?_eq_none (by omega),List.getElem?_eq_none (by simp;omega)])
  rw [eo,bS]
  cases o1 with
  | fin r=>exact ho.elim
  | go l =>
    rw [Nat.zero_add] at ho
    have hl:l=Al c (t+1):=ho
    subst hl
    rw [oG,Mm (m:=t+1) (by omega) hS.len hS.row (fun i hi j hj=>by rw [ss hi hj,ss hj hi];exact sym i hi j hj) (by omega),bS,nT,cF,xl,Nat.sub_zero]
    obtain ⟨o2,e2,ho2⟩:=eK (body:=fun k3 (st:Unit)=>iZ p xs rows (Al c (t+1)) k3) (fun k _=>True) (fun _=>False) (rem:=N) (k:=0) (s:=()) trivial (fun k _ _ hk _=>by
      have hkN:k < N:=by omega
      obtain ⟨w1,_,w3,w4,w5⟩:=oE hp hS (by omega) (hx k hkN).2
      have:Rw p (Al c (t+1)) (xs.getD k 0)=rows.getD k []:=Nb w3 (hw k hkN).1 fun j hj=>by
        refine oJ (w4.get hp.pos j) ((hw k hkN).2.get hp.pos j) ?_
        rw [w5 j hj,← col k hkN j hj,oI (n:=t+1) (by rw [hcl j hj];exact Nat.le_refl _)]
        exact b8 fun a ha=>by rw [ss ha hj]
      unfold iZ
      rw [ix 0 (by omega),bS,w1,bS,ix [] (by omega),bS,this,DF,bS,nT,cF]
      exact ⟨_,rfl,trivial⟩)
    rw [e2,bS]
    cases o2 with
    | fin r=>exact ho2.elim
    | go s =>
      rw [oG]
      refine ⟨_,rfl,hS.len,hS.row 0 (by omega),hS.lt 0 (by omega) 0 (by omega),fun h hl hh=>?_⟩
      have h2:=ta hp neX (f:=P p (c 0)) (g:=h) (by rw [lD,hcl 0 (by omega)];exact Nat.le_refl _) hl (fun i hi=>by
        rw [col i (by omega) 0 (by omega),← hh i (by omega),xz]) 0
      rw [ss (by omega) (by omega),y9,← h2,ln]
end
end Pu

/- Plain laws of sharings that stand: sums, nothing, the honest parties' matrix. -/
set_option linter.unusedVariables false
namespace Pu
open Gw Gl Sp
/-- the honest parties' rows belong to one symmetric polynomial, which is c at (0, 0) -/
structure wA (w:ae) [NeZero w.S.P] (n t:Nat) (a:List (List Nat)) (c:Fin w.S.P):Prop where
  l:a.length=n
  r:∀ i,i < n→(a.getD i []).length=t+1∧Lt w.S.P (a.getD i [])
  cs:∀ i,i < n→Hn w i→∀ j,j < n→Hn w j→bU (P w.S.P (a.getD i [])) (o w.S.P (j+1))=bU (P w.S.P (a.getD j [])) (o w.S.P (i+1))
  sp:∀ y,∃ g:List (Fin w.S.P),g.length≤t+1∧(∀ i,i < n→Hn w i→bU (P w.S.P (a.getD i [])) y=bU g (o w.S.P (i+1)))∧(y=0→bU g 0=c)
theorem Gc {l:List Nat} {k:Nat} (h:l.length≤k):l.getD k 0=0:=by
  rw [List.getD_eq_getElem?_getD,List.getElem?_eq_none h];rfl
theorem Ni {f:Nat→Bool}:∀ {l:List Nat},l.length=(l.filter f).length+(l.filter fun x=>!f x).length
  | []=>rfl
  | a :: t=>by
    have:=Ni (f:=f) (l:=t)
    cases h:f a <;> simp [List.filter_cons,h] <;> omega
section
variable {w:ae} {n t:Nat}
/-- the honest parties -/
def un (w:ae) (k:Nat):List Nat:=(List.range k).filter fun i=>decide ((((i:Nat):Int)+1) ∉ w.ah)
theorem AF {k:Nat}:un w (k+1)=un w k++if (((k:Nat):Int)+1) ∉ w.ah then [k] else []:=by
  unfold un
  rw [List.range_succ,List.filter_append]
  by_cases g:(((k:Nat):Int)+1) ∉ w.ah
  · rw [if_pos g,List.filter_cons,if_pos (by simpa using g),List.filter_nil]
  · rw [if_neg g,List.filter_cons,if_neg (by simpa using g),List.filter_nil]
theorem LP {k:Nat}:(un w k).length≤k:=Nat.le_trans (List.length_filter_le ..) (by simp)
theorem vr {i:Nat} (hi:i < (un w n).length):(un w n).getD i 0 < n∧(((((un w n).getD i 0:Nat)):Int)+1) ∉ w.ah:=by
  obtain ⟨h1,h2⟩:=List.mem_filter.1 (getD_in (d:=0) hi)
  exact ⟨List.mem_range.1 h1,of_decide_eq_true h2⟩
theorem FF {i j:Nat} (hi:i < (un w n).length) (hj:j < (un w n).length) (hij:i≠j):(un w n).getD i 0≠(un w n).getD j 0:=by
  have hpw:(un w n).Pairwise (· < ·):=List.Pairwise.sublist List.filter_sublist List.pairwise_lt_range
  rw [List.getD_eq_getElem?_getD,List.getD_eq_getElem?_getD,List.getElem?_eq_getElem hi,List.getElem?_eq_getElem hj]
  show (un w n)[i]≠(un w n)[j]
  rcases Nat.lt_or_gt_of_ne hij with c | c
  · have:=List.pairwise_iff_getElem.1 hpw i j (by omega) (by omega) c;omega
  · have:=List.pairwise_iff_getElem.1 hpw j i (by omega) (by omega) c;omega
theorem CQ (s:Sc w n t):n≤(un w n).length+t:=by
  have h1:((List.range n).filter fun i=>!decide ((((i:Nat):Int)+1) ∉ w.ah)).length≤t:=by
    rw [← List.length_map (f:=fun i=>((i:Nat):Int)+1)]
    refine Nat.le_trans (xk ?_ fun x hx=>?_) s.cl
    · rw [List.Nodup,List.pairwise_map]
      exact List.Pairwise.imp (fun {a b} h=>by omega) (List.Pairwise.filter _ List.nodup_range)
    · obtain ⟨i,hi,rfl⟩:=List.mem_map.1 hx
      have:=(List.mem_filter.1 hi).2
      simpa using this
  have h2:=Ni (l:=List.range n) (f:=fun i=>decide ((((i:Nat):Int)+1) ∉ w.ah))
  rw [List.length_range] at h2
  show n≤((List.range n).filter fun i=>decide ((((i:Nat):Int)+1) ∉ w.ah)).length+t
  omega
end
section
variable {w:ae} [NeZero w.S.P] {n t:Nat}
theorem G9 {p:Nat} (hp:fG p) {a b:List Nat} (ha:Lt p a) (hb:Lt p b) {m:Nat} (h1:a.length=m) (h2:b.length=m) (hm:m≤1000):mX a b p=some ((List.range m).map fun j=>(a.getD j 0+b.getD j 0) % p):=by
  have hlt:=hp.lt
  unfold mX dx
  rw [h1,cc (by omega) (by omega) (by omega) (by omega),bS,Int.toNat_natCast,Nat.sub_zero]
  obtain ⟨r,e,r1,r2⟩:=bg (body:=fun k1 (st:(List Nat))=>cY a b p k1 st) (fun k r=>r.length=m∧∀ j,j < k→r.getD j 0=(a.getD j 0+b.getD j 0) % p) (rem:=m) (k:=0) (s:=List.replicate m 0)
    ⟨by simp,fun j hj=>by omega⟩ (fun k r _ hk ⟨r1,r2⟩=>by
      have:=ha.get hp.pos k
      have:=hb.get hp.pos k
      unfold cY nJ
      rw [ix 0 (by omega),bS,ix 0 (by omega),bS,uv hp (by omega),bS,bS,ix 0 (by omega),bS,bS]
      refine ⟨_,rfl,by rw [List.length_set];exact r1,fun j hj=>?_⟩
      rw [aL (by omega)]
      by_cases g:k=j
      · rw [if_pos g,g]
      · rw [if_neg g];exact r2 j (by omega))
  rw [Nat.zero_add] at r2
  rw [e,bS,bS,Nb r1 dJ fun i hi=>by rw [r2 i hi,dt hi]]
/-- the sum of two sharings -/
theorem wA.add (hp:fG w.S.P) (hn:n≤13) (ht:t≤13) {a b:List (List Nat)} {c d:Fin w.S.P} (A:wA w n t a c) (B:wA w n t b d):∃ s,pH w.S.P a b=some s∧wA w n t s (c+d):=by
  have hlt:=hp.lt
  have hw:=fun i (hi:i < n)=>G9 hp (A.r i hi).2 (B.r i hi).2 (A.r i hi).1 (B.r i hi).1 (by omega)
  unfold pH jU dw
  rw [A.l,cc (by omega) (by omega) (by omega) (by omega),bS,Int.toNat_natCast,Nat.sub_zero]
  obtain ⟨r,e,r1,r2⟩:=bg (body:=fun k1 (st:(List (List Nat)))=>cX a b w.S.P k1 st) (fun k r=>r.length=n∧∀ i,i < k→r.getD i []=(List.range (t+1)).map fun j=>((a.getD i []).getD j 0+(b.getD i []).getD j 0) % w.S.P) (rem:=n) (k:=0) (s:=List.replicate n [])
    ⟨by simp,fun j hj=>by omega⟩ (fun k r _ hk ⟨r1,r2⟩=>by
      unfold cX
      rw [ix [] (by rw [A.l];omega),bS,ix [] (by rw [B.l];omega),bS,hw k (by omega),bS,ix [] (by omega),bS,bS]
      refine ⟨_,rfl,by rw [List.length_set];exact r1,fun j hj=>?_⟩
      rw [aL (by omega)]
      by_cases g:k=j
      · rw [if_pos g,g]
      · rw [if_neg g];exact r2 j (by omega))
  rw [Nat.zero_add] at r2
  rw [e,bS,bS,bS]
  have hev:∀ i,i < n→∀ y,bU (P w.S.P (r.getD i [])) y=bU (P w.S.P (a.getD i [])) y+bU (P w.S.P (b.getD i [])) y:=fun i hi y=>by
    rw [r2 i hi,← pz]
    refine j9 (fun k=>?_) y
    rw [pO,ln,ln,ln]
    by_cases g:k < t+1
    · rw [dt g,kR,xH]
    · rw [Gc (by rw [dJ];omega),Gc (by rw [(A.r i hi).1];omega),Gc (by rw [(B.r i hi).1];omega),jK];grind
  refine ⟨r,rfl,r1,fun i hi=>?_,fun i hi hhi j hj hhj=>?_,fun y=>?_⟩
  · rw [r2 i hi]
    refine ⟨dJ,fun j hj=>?_⟩
    rw [dJ] at hj
    rw [dt hj]
    exact Nat.mod_lt _ hp.pos
  · rw [hev i hi,hev j hj,A.cs i hi hhi j hj hhj,B.cs i hi hhi j hj hhj]
  · obtain ⟨g,g1,g2,g3⟩:=A.sp y
    obtain ⟨h,h1,h2,h3⟩:=B.sp y
    refine ⟨oT g h,by rw [sH];omega,fun i hi hhi=>?_,fun hy=>?_⟩
    · rw [hev i hi,pz,g2 i hi hhi,h2 i hi hhi]
    · rw [pz,g3 hy,h3 hy]
theorem Po {m i:Nat}:(List.replicate m 0).getD i 0=0:=by
  rw [List.getD_eq_getElem?_getD,List.getElem?_replicate];split <;> rfl
/-- the sharing of nothing -/
theorem ET (hp:fG w.S.P) (s:Sc w n t):∃ a,ml w.S 0=some a∧wA w n t a 0:=by
  have hlt:=hp.lt
  have h13:=s.n13
  have h3:=s.t3
  have e1:((t:Nat):Int)+1=((t+1:Nat):Int):=by omega
  have e2:max 0 ((n:Int)).toNat=n:=by omega
  unfold ml
  rw [s.N,e2,bP (by omega),bS,Nat.sub_zero,gN (fun _=>List.replicate (t+1) 0) (fun k l hk hl=>by
    unfold pI
    rw [s.T,bh (by omega) (by omega),bS,e1,cc (by omega) (by omega) (by omega) (by omega),bS,Int.toNat_natCast,ix 0 (by simp),bS,bS,aI (by simp only [List.length_cons,List.length_nil];omega) (by simp only [List.length_cons,List.length_nil];omega),bS,List.replicate_succ,List.set_cons_zero]),bS]
  refine ⟨_,rfl,dJ,fun i hi=>?_,fun i hi _ j hj _=>?_,fun y=>⟨[],by simp,fun i hi _=>?_,fun _=>rfl⟩⟩
  · rw [dt hi]
    exact ⟨by simp,fun j hj=>by rw [Po];exact hp.pos⟩
  · rw [dt hi,dt hj,q7,q7]
  · rw [dt hi,q7];rfl
/-- polynomials are told apart by the honest parties -/
theorem zx (s:Sc w n t) {f g:List (Fin w.S.P)} (hf:f.length≤2*t+1) (hg:g.length≤2*t+1) (h:∀ i,i < n→(((i:Nat):Int)+1) ∉ w.ah→bU f (o w.S.P (i+1))=bU g (o w.S.P (i+1))) (k:Nat):cf f k=cf g k:=by
  have hlt:=s.sup.lt
  have h3:=s.t3
  have h13:=s.n13
  have hl:=CQ s
  refine ta s.sup (X:=fun i=>o w.S.P ((un w n).getD i 0+1)) (n:=(un w n).length) (fun i j hi hj hij e=>?_) (by omega) (by omega) (fun i hi=>h _ (vr hi).1 (vr hi).2) k
  have h1:=(vr hi).1
  have h2:=(vr hj).1
  have:=oJ (p:=w.S.P) (by omega) (by omega) e
  exact FF hi hj hij (by omega)
/-- the matrix of the honest rows -/
theorem BV (s:Sc w n t) (hn:n≤7) (ht:t≤2) {a:List (List Nat)} {c:Fin w.S.P} (A:wA w n t a c):∃ S,fE w a=some (S,true)∧S.length=t+1∧(S.getD 0 []).length=t+1∧(S.getD 0 []).getD 0 0 < w.S.P∧o w.S.P ((S.getD 0 []).getD 0 0)=c:=by
  have hp:=s.sup
  have hlt:=hp.lt
  have h3:=s.t3
  have e1:((t:Nat):Int)+1=((t+1:Nat):Int):=by omega
  have hl:=A.l
  have hHl:∀ k,(un w k).length≤k:=fun k=>LP
  unfold fE
  obtain ⟨r,er,hr⟩:=jI (step:=fun (st:(List Nat) × (List (List Nat)) × Int)=>dG w a st.1 st.2.1 st.2.2)
    (fun st=>∃ k,k≤n∧st=((un w k).map (·+1),(un w k).map fun i=>a.getD i [],((k:Nat):Int))) (fun r=>r=((un w n).map (·+1),(un w n).map fun i=>a.getD i [])) (fun st=>n - st.2.2.toNat)
    (fun st ⟨k,hk,hst⟩=>by
      subst hst
      simp only
      unfold dG
      by_cases g:k < n
      · have hu:q9 (((k:Nat):Int)+1)=k+1:=by unfold q9;omega
        have:=hHl k
        rw [s.N,dT (by omega),cT,dT (by omega),bS,cT,bh (by omega) (by omega),bS,DO,bS]
        by_cases gc:(((k:Nat):Int)+1) ∉ w.ah
        · rw [dT gc,cT,bS,hu,aI (by simp only [List.length_cons,List.length_nil,List.length_map];omega) (by simp only [List.length_cons,List.length_nil,List.length_map];omega),bS,aU [] (by omega) (by omega),bS,Int.toNat_natCast,aI (by simp only [List.length_cons,List.length_nil,List.length_map];omega) (by simp only [List.length_cons,List.length_nil,List.length_map];omega),bS]
          refine ⟨_,rfl,⟨k+1,g,?_⟩,by simp only;omega⟩
          rw [AF,if_pos gc,List.map_append,List.map_append];rfl
        · rw [dF gc,cF]
          refine ⟨_,rfl,⟨k+1,g,?_⟩,by simp only;omega⟩
          rw [AF,if_neg gc,List.append_nil];rfl
      · have:k=n:=by omega
        subst this
        rw [s.N,dF (by omega),cF,bS,cF]
        exact ⟨_,rfl,rfl⟩) (s:=([],[],((0:Nat):Int))) ⟨0,by omega,rfl⟩ (by simp only;omega)
  subst hr
  rw [er,bS]
  simp only
  have hmem:=fun i (hi:i < (un w n).length)=>vr hi
  have hcnt:=CQ s
  have hHn:=hHl n
  have hx:∀ i,i < (un w n).length→((un w n).map (·+1)).getD i 0=(un w n).getD i 0+1:=fun i hi=>by
    rw [List.getD_eq_getElem?_getD,List.getElem?_map,ix 0 hi];rfl
  have hr:∀ i,i < (un w n).length→((un w n).map fun i=>a.getD i []).getD i []=a.getD ((un w n).getD i 0) []:=fun i hi=>by
    rw [List.getD_eq_getElem?_getD,List.getElem?_map,ix 0 hi];rfl
  obtain ⟨S,eS,s1,s2,s3,s4⟩:=BW hp (xs:=(un w n).map (·+1)) (rows:=(un w n).map fun i=>a.getD i []) (t:=t) (N:=(un w n).length)
    ⟨by simp,by simp,by omega,by omega,ht,fun i hi=>by rw [hx i hi];have:=(hmem i hi).1;omega,fun i j hi hj h=>by rw [hx i hi,hx j hj];have:=FF hi hj h;omega,
      fun i hi=>by rw [hr i hi];exact A.r _ (hmem i hi).1,fun i hi j hj=>by
        rw [hr i hi,hr j hj,hx i hi,hx j hj]
        exact A.cs _ (hmem i hi).1 (.inl (hmem i hi).2) _ (hmem j hj).1 (.inl (hmem j hj).2),fun y=>by
        obtain ⟨g,g1,g2,_⟩:=A.sp y
        exact ⟨g,g1,fun i hi=>by rw [hr i hi,hx i hi];exact g2 _ (hmem i hi).1 (.inl (hmem i hi).2)⟩⟩
  rw [s.T,eS,bS]
  simp only
  rw [eT rfl,cT,bh (by omega) (by omega),bS,s1,eT (by omega)]
  obtain ⟨g,g1,g2,g3⟩:=A.sp 0
  exact ⟨S,rfl,s1,s2,s3,by rw [s4 g g1 (fun i hi=>by rw [hr i hi,hx i hi];exact g2 _ (hmem i hi).1 (.inl (hmem i hi).2)),g3 rfl]⟩
/-- the rows of a symmetric matrix -/
theorem wA.rows (s:Sc w n t) (ht:t≤2) {M:List (List Nat)} (hM:qq w.S.P (t+1) (t+1) M) (hs:∀ i,i < t+1→∀ j,j < t+1→(M.getD i []).getD j 0=(M.getD j []).getD i 0) {a:List (List Nat)} (hl:a.length=n) (ha:∀ i,i < n→a.getD i []=Rw w.S.P M (i+1)):wA w n t a (o w.S.P ((M.getD 0 []).getD 0 0)):=by
  have hp:=s.sup
  have hlt:=hp.lt
  have h13:=s.n13
  have hw:=fun i (hi:i < n)=>oE hp hM (by omega) (show i+1 < w.S.P by omega)
  refine ⟨hl,fun i hi=>by rw [ha i hi];exact ⟨(hw i hi).2.2.1,(hw i hi).2.2.2.1⟩,fun i hi _ j hj _=>?_,fun y=>⟨(List.range (t+1)).map fun b=>sm (t+1) fun a=>o w.S.P ((M.getD b []).getD a 0)*y ^ a,by simp,fun i hi _=>?_,fun hy=>?_⟩⟩
  · rw [ha i hi,ha j hj]
    have e1:=(jd hp (hw i hi).2.2.2.1 (show j+1 < w.S.P by omega) (by rw [(hw i hi).2.2.1];omega)).2.2
    have e2:=(jd hp (hw j hj).2.2.2.1 (show i+1 < w.S.P by omega) (by rw [(hw j hj).2.2.1];omega)).2.2
    rw [← e1,← e2,xg hp hM hs (by omega) (by omega) (by omega)]
  · rw [ha i hi,oI (n:=t+1) (by rw [(hw i hi).2.2.1];exact Nat.le_refl _),uG (n:=t+1) _ (by simp)]
    have e1:sm (t+1) (fun j=>o w.S.P ((Rw w.S.P M (i+1)).getD j 0)*y ^ j)=sm (t+1) fun j=>sm (t+1) fun k=>o w.S.P ((M.getD k []).getD j 0)*y ^ j*o w.S.P (i+1) ^ k:=b8 fun j hj=>by
      rw [(hw i hi).2.2.2.2 j hj]
      have:∀ z:Fin w.S.P,sm (t+1) (fun k=>o w.S.P ((M.getD k []).getD j 0)*o w.S.P (i+1) ^ k)*z=z*sm (t+1) (fun k=>o w.S.P ((M.getD k []).getD j 0)*o w.S.P (i+1) ^ k):=fun z=>by grind
      rw [this,← my]
      exact b8 fun k _=>by grind
    rw [e1,vC]
    exact b8 fun k hk=>by
      show _=((List.range (t+1)).map fun b=>sm (t+1) fun a=>o w.S.P ((M.getD b []).getD a 0)*y ^ a).getD k 0*_
      rw [dt hk]
      have:∀ z:Fin w.S.P,sm (t+1) (fun a=>o w.S.P ((M.getD k []).getD a 0)*y ^ a)*z=z*sm (t+1) (fun a=>o w.S.P ((M.getD k []).getD a 0)*y ^ a):=fun z=>by grind
      rw [this,← my]
      exact b8 fun a _=>by grind
  · rw [y9,hy]
    show ((List.range (t+1)).map fun b=>sm (t+1) fun a=>o w.S.P ((M.getD b []).getD a 0)*0 ^ a).getD 0 0=_
    rw [dt (by omega),Bc,tr fun j _=>by grind]
    grind
end
end Pu

/- Plain laws of refreshing: the complaints. -/
set_option linter.unusedVariables false
namespace Pu
open Gw Gl Sp
theorem divN {a b:Nat} (hb:0 < b) (ha:a < 9223372036854775808):yd ((a:Nat):Int) ((b:Nat):Int)=some ((a / b:Nat):Int):=by
  unfold yd
  rw [if_neg (by omega)]
  have h:((a:Nat):Int).tdiv ((b:Nat):Int)=((a / b:Nat):Int):=rfl
  rw [h]
  have:=Nat.div_le_self a b
  clear h
  generalize a / b=q at *
  exact qE (by omega) (by omega)
theorem Pn {a b:Nat} (hb:0 < b):GC ((a:Nat):Int) ((b:Nat):Int)=some ((a % b:Nat):Int):=by
  unfold GC
  rw [if_neg (by omega)];rfl
theorem A6 {α:Type} {body:Nat→List α→Option (List α)} (v:Nat→α) {n:Nat} (h:∀ j l,j < n→l.length=j→body (j+1) l=some (l++[v j])):du body n 1 []=some ((List.range n).map v):=by
  obtain ⟨r,e,h2⟩:=bg (body:=body) (fun k l=>l=(List.range (k - 1)).map v) (rem:=n) (k:=1) (s:=[]) rfl (fun j l h1 hj hl=>by
    subst hl
    obtain ⟨i,rfl⟩:∃ i,j=i+1:=⟨j - 1,by omega⟩
    refine ⟨_,h i _ (by omega) (by simp),?_⟩
    show _=List.map v (List.range (i+1))
    rw [List.range_succ,List.map_append];rfl)
  rw [e,h2,Nat.add_sub_cancel_left]
/-- q is at times u -/
def hl (p i:Nat) (u q:List Nat):Bool:=decide (q.getD 0 0=(i+1)*u.getD 0 0 % p)
/-- a row of a result -/
def Ba (res:bi) (i d k:Nat):List Nat:=((res.Rows.getD i []).getD d []).getD k []
/-- a result's form: c rows of each dealer -/
structure Fm (p n t c:Nat) (res:bi):Prop where
  rl:res.Rows.length=n
  dl:res.be.length=n
  row:∀ i,i < n→(res.Rows.getD i []).length=n
  many:∀ i,i < n→∀ d,d < n→((res.Rows.getD i []).getD d []).length=c
  ww:∀ i,i < n→∀ d,d < n→∀ k,k < c→(Ba res i d k).length=t+1∧Lt p (Ba res i d k)
theorem Ov.fm {w:ae} {tapes:List (List Nat)} {q:List (List (List Nat))} {n t c:Nat} {res:bi} (r:Ov w tapes q n t res) (hc:∀ d,d < n→(q.getD d []).length=c):Fm w.S.P n t c res :=
  ⟨r.rl,r.dl,r.row,fun i hi d hd=>by rw [r.many i hi d hd,hc d hd],fun i hi d hd k hk=>r.ww i hi d hd k (by rw [hc d hd];exact hk)⟩
/-- a sharing -/
def shr (res:bi) (n d k:Nat):List (List Nat):=(List.range n).map fun i=>Ba res i d k
section
variable {p n t c:Nat} {res:bi}
theorem xi {d k:Nat}:(shr res n d k).length=n:=dJ
theorem kz {i d k:Nat} (hi:i < n):(shr res n d k).getD i []=Ba res i d k:=dt hi
theorem C4 (F:Fm p n t c res) (hn:n≤100) (hc:c≤10) {d k:Nat} (hd:d < n) (hk:k < c):lX res ((d+1:Nat):Int) ((k:Nat):Int)=some (shr res n d k):=by
  have e0:((d+1:Nat):Int) - 1=((d:Nat):Int):=by omega
  unfold lX
  rw [Nat.sub_zero,F.rl,gN (fun i=>Ba res i d k) (fun i l hi hl=>by
    unfold qV
    rw [ix [] (by rw [F.rl];exact hi),bS,cD (by omega) (by omega),bS,e0,aU [] (by omega) (by rw [F.row i hi];omega),bS,Int.toNat_natCast,aU [] (by omega) (by rw [F.many i hi d hd];omega),bS,Int.toNat_natCast,aI (by simp only [List.length_cons,List.length_nil];omega) (by simp only [List.length_cons,List.length_nil];omega),bS]
    rfl),bS]
  rfl
theorem zG {net:ai} {S:aM} {m:Int} (F:Fm p n t c res) (hn:n≤100) (hc:c≤10) {d k:Nat} (hd:d < n) (hk:2*k+1 < c):fP ⟨net,S,m,res⟩ ((d+1:Nat):Int) ((k:Nat):Int)=some (shr res n d (2*k),shr res n d (2*k+1)):=by
  have e1:(2:Int)*((k:Nat):Int)=((2*k:Nat):Int):=by omega
  have e2:((2*k:Nat):Int)+1=((2*k+1:Nat):Int):=by omega
  unfold fP
  rw [eM (by omega) (by omega),bS,e1,C4 F hn hc hd (by omega),bS,bh (by omega) (by omega),bS,e2,C4 F hn hc hd hk,bS]
theorem AG (hp:fG p) {x:bj} (hx:x.zs.P=p) {i:Nat} (hi:i+1 < p) {u q:List Nat} (hu:Lt p u) (hu1:1≤u.length) (hq:1≤q.length):gM x ((i+1:Nat):Int) u q=some (hl p i u q):=by
  have hlt:=hp.lt
  have hU:q9 ((i+1:Nat):Int)=i+1:=by unfold q9;omega
  unfold gM
  rw [ix 0 (by omega),bS,bS,hU,ix 0 (by omega),bS,hx,jJ hp hi (hu.get hp.pos 0),bS]
  unfold hl
  by_cases g:q.getD 0 0=(i+1)*u.getD 0 0 % p
  · rw [eT (by omega),dT g]
  · rw [eF (by omega),dF g]
/-- what party i says of the a-th pair -/
def Bb (p n m:Nat) (res:bi) (i a:Nat):Nat:=if hl p i (Ba res i (a / m) (2*(a % m))) (Ba res i (a / m) (2*(a % m)+1)) then 0 else 1
def says (p n m:Nat) (res:bi):List (List Nat):=(List.range n).map fun i=>(List.range (n*m)).map fun a=>Bb p n m res i a
/-- the complaints that were heard, about dealers that are not disqualified -/
def EC (n m:Nat) (dq:Nat→Bool) (h:List (List Nat)) (k:Nat):List (Nat × Nat × Nat):=(List.range k).flatMap fun i=>((List.range (n*m)).filter fun a=>decide ((h.getD i []).getD a 0≠0) && !dq (a / m)).map fun a=>(i,a / m,a % m)
def toC (c:Nat × Nat × Nat):aN:=⟨((c.1+1:Nat):Int),((c.2.1+1:Nat):Int),((c.2.2:Nat):Int)⟩
theorem HC {m:Nat} {dq:Nat→Bool} {h:List (List Nat)} {x:Nat × Nat × Nat} (hm:0 < m):x ∈ EC n m dq h n ↔ x.1 < n∧x.2.1 < n∧x.2.2 < m∧(h.getD x.1 []).getD (x.2.1*m+x.2.2) 0≠0∧dq x.2.1=false:=by
  unfold EC
  rw [List.mem_flatMap]
  constructor
  · rintro ⟨i,hi,hx⟩
    obtain ⟨a,ha,rfl⟩:=List.mem_map.1 hx
    obtain ⟨h1,h2⟩:=List.mem_filter.1 ha
    rw [Bool.and_eq_true] at h2
    have h3:=of_decide_eq_true h2.1
    have h4:dq (a / m)=false:=by simpa using h2.2
    have h5:a < n*m:=by simpa using h1
    have e:=Nat.div_add_mod' a m
    refine ⟨by simpa using hi,?_,Nat.mod_lt _ hm,?_,h4⟩
    · show a / m < n
      exact Nat.div_lt_of_lt_mul (by rw [Nat.mul_comm];exact h5)
    · show (h.getD i []).getD (a / m*m+a % m) 0≠0
      rw [e];exact h3
  · rintro ⟨h1,h2,h3,h4,h5⟩
    obtain ⟨i,d,k⟩:=x
    simp only at h1 h2 h3 h4 h5
    have e1:(d*m+k) / m=d:=by rw [Nat.mul_comm,Nat.mul_add_div hm,Nat.div_eq_of_lt h3,Nat.add_zero]
    have e2:(d*m+k) % m=k:=by rw [Nat.mul_comm,Nat.mul_add_mod,Nat.mod_eq_of_lt h3]
    refine ⟨i,by simpa using h1,List.mem_map.2 ⟨d*m+k,List.mem_filter.2 ⟨?_,?_⟩,by rw [e1,e2]⟩⟩
    · rw [List.mem_range]
      calc d*m+k < d*m+m:=by omega
        _=(d+1)*m:=by rw [Nat.succ_mul]
        _≤n*m:=Nat.mul_le_mul_right m h2
    · rw [e1,h5,Bool.and_eq_true]
      exact ⟨decide_eq_true h4,rfl⟩
theorem y5 {m:Nat} {dq:Nat→Bool} {h:List (List Nat)}:∀ {k:Nat},(EC n m dq h k).length≤k*(n*m)
  | 0=>by simp [EC]
  | k+1=>by
    have ih:=y5 (m:=m) (dq:=dq) (h:=h) (k:=k)
    have:(EC n m dq h (k+1)).length=(EC n m dq h k).length+((List.range (n*m)).filter fun a=>decide ((h.getD k []).getD a 0≠0) && !dq (a / m)).length:=by
      unfold EC
      rw [List.range_succ,List.flatMap_append,List.length_append]
      simp
    have h2:((List.range (n*m)).filter fun a=>decide ((h.getD k []).getD a 0≠0) && !dq (a / m)).length≤n*m:=Nat.le_trans (List.length_filter_le ..) (by simp)
    rw [this,Nat.succ_mul];omega
/-- one party's complaints -/
theorem ES {net:ai} {S:aM} {m i:Nat} (F:Fm p n t c res) (hN:S.N=(n:Int)) (hn:n≤7) (hm:0 < m) (hm3:m≤3) {h:List (List Nat)} {acc:List aN} (ha:acc.length≤1000) :
    fj ((i+1:Nat):Int) (h.getD i []) ⟨net,S,((m:Nat):Int),res⟩ acc=some (acc++(((List.range (n*m)).filter fun a=>decide ((h.getD i []).getD a 0≠0) && !res.be.getD (a / m) false).map fun a=>toC (i,a / m,a % m))):=by
  have hnm:n*m≤21:=Nat.le_trans (Nat.mul_le_mul hn hm3) (by omega)
  have e1:((n:Nat):Int)*((m:Nat):Int)=((n*m:Nat):Int):=by rw [Int.natCast_mul]
  obtain ⟨r,er,r1,r2⟩:=nI (l:=h.getD i []) (m:=n*m) (by omega)
  unfold fj
  simp only
  rw [hN,eM (by omega) (by omega),bS,e1,er,bS,r1,Nat.sub_zero]
  obtain ⟨l,el,l1,l2⟩:=bg (body:=fun k1 (st:(List aN))=>gn ((i+1:Nat):Int) ⟨net,S,((m:Nat):Int),res⟩ r k1 st)
    (fun k l=>l=acc++(((List.range k).filter fun a=>decide ((h.getD i []).getD a 0≠0) && !res.be.getD (a / m) false).map fun a=>toC (i,a / m,a % m))∧l.length≤1000+k) (rem:=n*m) (k:=0) (s:=acc) ⟨by simp,by omega⟩ (fun k l _ hk ⟨l1,l2⟩=>by
      have hkn:k < n*m:=by omega
      have hd:k / m < n:=Nat.div_lt_of_lt_mul (by rw [Nat.mul_comm];exact hkn)
      obtain ⟨kd,hkd⟩:∃ kd,k / m=kd:=⟨_,rfl⟩
      rw [hkd] at hd
      unfold gn
      rw [ix 0 (by omega),bS,r2 k hkn]
      simp only
      rw [divN hm (by omega),bS,hkd]
      by_cases g:(h.getD i []).getD k 0=0
      · rw [qF (by omega),cF,bS,cF]
        refine ⟨_,rfl,?_,by omega⟩
        rw [List.range_succ,List.filter_append,List.filter_cons,hkd,dF (by omega),Bool.false_and,if_neg (by decide),List.filter_nil,List.append_nil]
        exact l1
      · rw [qT (by omega),cT,aU false (by omega) (by rw [F.dl];omega),bS,Int.toNat_natCast,bS]
        cases hq:res.be.getD kd false
        · have e2:((kd:Nat):Int)+1=((kd+1:Nat):Int):=by omega
          rw [nF,cT,bh (by omega) (by omega),bS,Pn hm,bS,aI (by simp only [List.length_cons,List.length_nil];omega) (by simp only [List.length_cons,List.length_nil];omega),bS]
          refine ⟨_,rfl,?_,by rw [List.length_append];simp only [List.length_cons,List.length_nil];omega⟩
          rw [List.range_succ,List.filter_append,List.filter_cons,hkd,dT g,hq,if_pos (by decide),List.filter_nil,List.map_append,← List.append_assoc,← l1,e2]
          show _=l++[toC (i,k / m,k % m)]
          rw [hkd]
          rfl
        · rw [nT,cF]
          refine ⟨_,rfl,?_,by omega⟩
          rw [List.range_succ,List.filter_append,List.filter_cons,hkd,hq,nT,Bool.and_false,if_neg (by decide),List.filter_nil,List.append_nil]
          exact l1)
  rw [Nat.zero_add] at l1
  rw [el,bS,l1]
theorem JV (hp:fG p) {m:Nat}:Bl p n (n*m) (says p n m res):=⟨dJ,fun i hi=>by
  have hlt:=hp.lt
  unfold says
  rw [dt hi,dJ]
  refine ⟨fun a ha=>?_,Nat.le_refl _⟩
  rw [dJ] at ha
  rw [dt ha]
  unfold Bb
  split <;> omega⟩
theorem JW {net:ai} {m:Nat} (s:Sc net.zw n t) (F:Fm net.zw.S.P n t (2*m) res) (hn:n≤7) (hm:0 < m) (hm3:m≤3) :
    du (fun k1 (st:(List (List Nat)))=>gU ⟨net,net.zw.S,((m:Nat):Int),res⟩ k1 st) n 1 ([]:List (List Nat))=some (says net.zw.S.P n m res):=by
  have hp:=s.sup
  have hlt:=hp.lt
  have hnm:n*m≤21:=Nat.le_trans (Nat.mul_le_mul hn hm3) (by omega)
  have e0:max 1 ((n:Int)+1).toNat - 1=n:=by omega
  have e1:max 0 ((m:Nat):Int).toNat=m:=by omega
  unfold says
  refine A6 (fun i=>(List.range (n*m)).map fun a=>Bb net.zw.S.P n m res i a) fun i l hi hll=>?_
  unfold gU
  simp only
  rw [s.N,e0]
  obtain ⟨r,er,hr⟩:=bg (body:=fun k2 (st:(List Nat))=>gV ⟨net,net.zw.S,((m:Nat):Int),res⟩ (i+1) k2 st) (fun k r=>r=(List.range ((k - 1)*m)).map fun a=>Bb net.zw.S.P n m res i a) (rem:=n) (k:=1) (s:=[]) (by simp) (fun k r h1 hk hr=>by
    obtain ⟨d,rfl⟩:∃ d,k=d+1:=⟨k - 1,by omega⟩
    have hd:d < n:=by omega
    rw [Nat.add_sub_cancel] at hr
    unfold gV
    simp only
    rw [e1,bP (by omega),bS,Nat.sub_zero]
    obtain ⟨r2,er2,hr2⟩:=bg (body:=fun k3 (st:(List Nat))=>gW ⟨net,net.zw.S,((m:Nat):Int),res⟩ (i+1) (d+1) k3 st) (fun k r=>r=(List.range (d*m+k)).map fun a=>Bb net.zw.S.P n m res i a) (rem:=m) (k:=0) (s:=r) hr (fun k r _ hk hr=>by
      have hkm:k < m:=by omega
      have hdm:d*m+m≤n*m:=by rw [← Nat.succ_mul];exact Nat.mul_le_mul_right m hd
      have e3:((i+1:Nat):Int) - 1=((i:Nat):Int):=by omega
      have q1:(d*m+k) / m=d:=by rw [Nat.mul_comm,Nat.mul_add_div hm,Nat.div_eq_of_lt hkm,Nat.add_zero]
      have q2:(d*m+k) % m=k:=by rw [Nat.mul_comm,Nat.mul_add_mod,Nat.mod_eq_of_lt hkm]
      have hrl:r.length≤21:=by rw [hr,dJ];omega
      obtain ⟨u1,u2⟩:=F.ww i hi d hd (2*k) (by omega)
      obtain ⟨v1,v2⟩:=F.ww i hi d hd (2*k+1) (by omega)
      unfold gW
      rw [zG F (by omega) (by omega) hd (by omega),bS,cD (by omega) (by omega),bS,e3]
      simp only
      rw [aU [] (by omega) (by rw [xi];omega),bS,aU [] (by omega) (by rw [xi];omega),bS,Int.toNat_natCast,kz hi,kz hi,AG (p:=net.zw.S.P) hp rfl (by omega) u2 (by omega) (by omega),bS]
      have hw:Bb net.zw.S.P n m res i (d*m+k)=if hl net.zw.S.P i (Ba res i d (2*k)) (Ba res i d (2*k+1)) then 0 else 1:=by unfold Bb;rw [q1,q2]
      cases hh:hl net.zw.S.P i (Ba res i d (2*k)) (Ba res i d (2*k+1))
      · rw [cF,aI (by simp only [List.length_cons,List.length_nil];omega) (by simp only [List.length_cons,List.length_nil];omega),bS]
        refine ⟨_,rfl,?_⟩
        rw [← Nat.add_assoc,List.range_succ,List.map_append,← hr,List.map_cons,hw,hh];rfl
      · rw [cT,aI (by simp only [List.length_cons,List.length_nil];omega) (by simp only [List.length_cons,List.length_nil];omega),bS]
        refine ⟨_,rfl,?_⟩
        rw [← Nat.add_assoc,List.range_succ,List.map_append,← hr,List.map_cons,hw,hh];rfl)
    rw [er2,bS]
    refine ⟨_,rfl,?_⟩
    rw [hr2,Nat.add_sub_cancel,Nat.zero_add,Nat.succ_mul])
  rw [Nat.add_sub_cancel_left] at hr
  rw [er,bS,aI (by simp only [List.length_cons,List.length_nil];omega) (by simp only [List.length_cons,List.length_nil];omega),bS,hr]
/-- the complaints -/
theorem yb {net:ai} {m:Nat} (s:Sc net.zw n t) (F:Fm net.zw.S.P n t (2*m) res) (hn:n≤7) (hm:0 < m) (hm3:m≤3) {B:Nat} (hv:VB n B net.av) (hB:B≤500) (hr:0≤net.af∧net.af≤1000) :
    ∃ all views,fW ⟨net,net.zw.S,((m:Nat):Int),res⟩=some ((EC n m (fun d=>res.be.getD d false) all n).map toC,net.af+1,views)∧bb net.zw net.af (says net.zw.S.P n m res)=some all∧Bl net.zw.S.P n (n*m) all ∧
      (∀ i,i < n→Hn net.zw i→all.getD i []=(says net.zw.S.P n m res).getD i [])∧VB n (B+n) views∧∀ j,j < n→views.getD j []=net.av.getD j []++ye net.af all j n:=by
  have hnm:n*m≤21:=Nat.le_trans (Nat.mul_le_mul hn hm3) (by omega)
  have e0:max 1 ((n:Int)+1).toNat=n+1:=by omega
  obtain ⟨all,views,eb,ea,b1,b2,b3,b4,b5⟩:=Af s (L:=n*m) (JV (n:=n) (m:=m) (res:=res) s.sup) (by omega) hv.1 (fun j hj=>Nat.le_trans (hv.2 j hj) hB) hr
  unfold fW
  simp only
  rw [s.N,e0,bP (by omega),bS,Nat.add_sub_cancel,JW s F hn hm hm3,bS,eb,bS]
  simp only
  rw [b1.len,Nat.sub_zero]
  obtain ⟨l,el,hl⟩:=bg (body:=fun k4 (st:(List aN))=>gX ⟨net,net.zw.S,((m:Nat):Int),res⟩ (all,net.af+1,views) k4 st) (fun k l=>l=(EC n m (fun d=>res.be.getD d false) all k).map toC) (rem:=n) (k:=0) (s:=[]) (by simp [EC]) (fun k l _ hk hl=>by
    have hkn:k < n:=by omega
    have hll:l.length≤1000:=by
      rw [hl,List.length_map]
      refine Nat.le_trans y5 (Nat.le_trans (Nat.mul_le_mul (show k≤7 by omega) hnm) (by omega))
    have e2:((k:Nat):Int)+1=((k+1:Nat):Int):=by omega
    unfold gX
    simp only
    rw [ix [] (by rw [b1.len];exact hkn),bS,bh (by omega) (by omega),bS,e2,ES F s.N hn hm hm3 hll,bS]
    refine ⟨_,rfl,?_⟩
    unfold EC at hl ⊢
    rw [List.range_succ,List.flatMap_append,List.map_append,← hl]
    congr 1
    simp [List.flatMap_cons,List.flatMap_nil,Function.comp_def])
  rw [el,bS,hl,Nat.zero_add]
  refine ⟨all,views,rfl,ea,b1,fun i hi hh=>?_,⟨b4,fun j hj=>?_⟩,b5⟩
  · rcases hh with hh | hh
    · exact b2 i hi hh
    · rw [b3 hh]
  · rw [b5 j hj,List.length_append]
    have:=hv.2 j hj
    have:(ye net.af all j n).length≤n:=y7
    omega
end
end Pu
