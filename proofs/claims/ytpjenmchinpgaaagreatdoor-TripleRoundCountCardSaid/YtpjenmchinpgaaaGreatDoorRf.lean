/- Plain laws of opening rows. -/
import Derived.Test.YtpjenmchinpgaaaGreatDoorPk
import Derived.Test.YtpjenmchinpgaaaGreatDoorPl
set_option linter.unusedVariables false
namespace Pu
open Gw Gl Sp Lean.Grind
/-- decoding what was heard: the honest parties' polynomial, and who lied -/
theorem Gu{w:ae}{n t L:Nat}[NeZero w.S.P](s:Sc w n t){all:List (List (List Nat))}(sq:Sq w.S.P n L all){j k:Nat}(hj:j<n){f0:List Nat}(hf:f0.length≤t+1)
  (hh:∀i,i<n→(((i:Nat):Int)+1)∉w.af→o w.S.P (((all.getD i []).getD j []).getD k 0)=bZ (P w.S.P f0) (o w.S.P (i+1))) :
  ∃pts f at_,eh (wd all n j k)=some pts∧en w.S.P pts w.S.T w.S.T=some (f,at_,0)∧Lt w.S.P f∧f.length≤t+1∧(∀i,o w.S.P (f.getD i 0)=o w.S.P (f0.getD i 0)) ∧
   at_=((List.range n).filter λi=>decide (bZ (P w.S.P f0) (o w.S.P (i+1))≠o w.S.P (((all.getD i []).getD j []).getD k 0))).map λi=>((i:Nat):Int):=by
 have hp:=s.sup
 have h13:=s.n13
 have h3:=s.t3
 have hwl:(wd all n j k).length=n:=C8
 have hwp:Lt w.S.P (wd all n j k):=λi hi=>by
  rw[hwl] at hi
  rw[C7 hi]
  exact(sq.w i hi j hj).1.get hp.pos k
 obtain⟨pts,ep,p1,p2⟩:=zk (w:=wd all n j k) (by omega)
 have hP:=Hl hp hwp (by omega) p1 p2
 have hw:lX w.S.P pts f0=(List.range n).filter λi=>decide (bZ (P w.S.P f0) (o w.S.P (i+1))≠o w.S.P (((all.getD i []).getD j []).getD k 0)):=by
  unfold lX
  rw[p1,hwl]
  apply List.filter_congr
  intro i hi
  have hi':i<n:=by simpa using hi
  rw[p2 i (by omega),C7 hi']
 have hc:(lX w.S.P pts f0).length≤t:=by
  rw[hw,←List.length_map (f:=λi=>((i:Nat):Int)+1)]
  refine Nat.le_trans (xT ?_ λx hx=>?_) s.cl
  ·rw[List.Nodup,List.pairwise_map]
   exact List.Pairwise.imp (λ{a b} h=>by omega) (List.Pairwise.filter _ List.nodup_range)
  ·obtain⟨i,hi,rfl⟩:=List.mem_map.1 hx
   have hi2:=List.mem_filter.1 hi
   have hi':i<n:=by simpa using hi2.1
   apply Classical.byContradiction
   intro g
   have:=hh i hi' g
   simp only[decide_eq_true_eq] at hi2
   exact hi2.2 this.symm
 obtain⟨f,at_,e,ed,f1,f2,_,hgood⟩:=y5 (deg:=t) (w:=t) hp hP (by omega) (by omega)
 obtain⟨rfl,g2,g3⟩:=hgood f0 hf hc
 rw[s.T]
 exact⟨pts,f,at_,ep,ed,f1,f2,g2,by rw[g3,hw]⟩
theorem NQ{a b:List Nat}(h:a.length+b.length≤1000):dt [a,b] 0 ((0:Nat):Int)=some (a.length:Int):=by
 have g0:[a,b].getD 0 []=a:=rfl
 have z:((0:Nat):Int)+(a.length:Int)=(a.length:Int):=by omega
 unfold dt
 rw[ix [] (by simp),bS,g0,bi (by omega) (by omega),bS,z,dF (by omega),cF]
theorem NR{a b:List Nat}(h:a.length+b.length≤1000):dt [a,b] 1 (a.length:Int)=some ((a.length+b.length:Nat):Int):=by
 have g0:[a,b].getD 1 []=b:=rfl
 have z:(a.length:Int)+(b.length:Int)=((a.length+b.length:Nat):Int):=by omega
 unfold dt
 rw[ix [] (by simp),bS,g0,bi (by omega) (by omega),bS,z,dF (by omega),cF]
theorem Gq{m:Nat}(h:m≤1000):eH ((m:Nat):Int)=some []:=by
 unfold eH
 rw[dF (by omega),cF,cb (by omega) (by omega),bS]
 by_cases g:0<m
 ·rw[dT (by omega),cT,ci (by omega) (by omega) (by omega) (by omega),bS,eG (by omega) (by omega) (by omega),bS,Nat.sub_self,List.take_zero]
 ·rw[dF (by omega),cF]
theorem NS{a b:List Nat}(h:a.length+b.length≤1000):du [a,b] 0 []=some a:=by
 have g0:[a,b].getD 0 []=a:=rfl
 unfold du
 rw[ix [] (by simp),bS,g0,aM (by simp only[List.length_nil];omega) (by simp only[List.length_nil];omega),bS,List.nil_append]
theorem NT{a b:List Nat}(h:a.length+b.length≤1000):du [a,b] 1 a=some (a++b):=by
 have g0:[a,b].getD 1 []=b:=rfl
 unfold du
 rw[ix [] (by simp),bS,g0,aM (by omega) (by omega),bS]
theorem Oz{S:Type}{body:Nat→S→Option S}{a b c:S}(h0:body 0 a=some b)(h1:body 1 b=some c):cZ body 2 0 a=some c:=by
 simp only[cZ,h0,h1]
theorem Cu{a b:List Nat}(h:a.length+b.length≤1000):fk [a,b]=some (a++b):=by
 have e0:[a,b].length-0=2:=rfl
 unfold fk
 rw[e0,Oz (NQ h) (NR h),bS,Gq h,bS,Oz (NS h) (NT h),bS]
/-- what opening rows does -/
theorem rows_ok{net:ai}{n t m:Nat}[NeZero net.zw.S.P](s:Sc net.zw n t){w:List (List (List Nat))}{ats:List Int}(hm:m≤500)(h1:w.length=m)(hm0:0<m)(h2:∀k,k<m→(w.getD k []).length=n∧∀i,i<n→((w.getD k []).getD i []).length≤100∧Lt net.zw.S.P ((w.getD k []).getD i []))
  (h3:ats.length=m) {a:Nat→Nat} (h4:∀k,k<m→ats.getD k 0=((a k+1:Nat):Int)∧a k<n) (hv:net.av.length=n) (hb:∀j,j<n→(net.av.getD j []).length≤500) (hr:0≤net.ah∧net.ah≤1000) :
  ∃(lists:List (List Nat)) (all:List (List (List Nat))) (rows:List (List (List Nat))) (views:List (List am)),iB net w ats=some (rows,net.ah+1,views)∧(∀i,i<n→(lists.getD i []).length=m∧∀k,k<m→(lists.getD i []).getD k 0<net.zw.S.P∧o net.zw.S.P ((lists.getD i []).getD k 0)=bZ (P net.zw.S.P ((w.getD k []).getD i [])) (o net.zw.S.P (a k+1)))∧Sq net.zw.S.P n 500 all ∧
   (∀i,i<n→(((i:Nat):Int)+1)∉net.zw.af→∀j,j<n→(all.getD i []).getD j []=lists.getD i [])∧rows.length=n∧views.length=n ∧
   (∀j,j<n→(rows.getD j []).length=m∧∀k,k<m→∃pts f at_ e,eh (wd all n j k)=some pts∧en net.zw.S.P pts net.zw.S.T net.zw.S.T=some (f,at_,e)∧Lt net.zw.S.P f∧f.length≤t+1∧(rows.getD j []).getD k []=f++List.replicate (t+1-f.length) 0) ∧
   (∀j,j<n→views.getD j []=net.av.getD j []++Bu net.ah all j n):=by
 have hp:=s.sup
 have hlt:=hp.lt
 have h13:=s.n13
 have h4':=s.n4
 have h3t:=s.t3
 unfold iB bp
 rw[bS,s.N,ci (by omega) (by omega) (by omega) (by omega),bS,Int.toNat_natCast,h1,eF (by omega),cF,ci (by omega) (by omega) (by omega) (by omega),bS,Int.toNat_natCast,List.length_replicate,Nat.sub_zero]
 obtain⟨lists,el,l1,l2,_⟩:=bm (body:=λk1 (st:(List (List Nat)))=>lO w ats net.zw k1 st) (rem:=n) (k:=0) (s:=List.replicate n ([]:List Nat))
  (λi l=>l.length=n∧(∀i',i'<i→(l.getD i' []).length=m∧∀k,k<m→(l.getD i' []).getD k 0<net.zw.S.P∧o net.zw.S.P ((l.getD i' []).getD k 0)=bZ (P net.zw.S.P ((w.getD k []).getD i' [])) (o net.zw.S.P (a k+1)))∧∀i',i≤i'→l.getD i' []=[])
  ⟨by simp,λi hi=>by omega,λi _=>by by_cases g:i<n <;> simp[List.getD_eq_getElem?_getD,g]⟩ (λi l _ hi ⟨l1,l2,l3⟩=>by
   have hin:i<n:=by omega
   unfold lO
   rw[Nat.sub_zero,h1]
   obtain⟨r,er,r1,r2,r3,r4⟩:=bm (body:=λk2 (st:(List (List Nat)))=>lP w ats net.zw i k2 st) (rem:=m) (k:=0) (s:=l)
    (λk r=>r.length=n∧(r.getD i []).length=k∧(∀q,q<k→(r.getD i []).getD q 0<net.zw.S.P∧o net.zw.S.P ((r.getD i []).getD q 0)=bZ (P net.zw.S.P ((w.getD q []).getD i [])) (o net.zw.S.P (a q+1)))∧∀i',i'≠i→r.getD i' []=l.getD i' [])
    ⟨l1,by rw[l3 i (Nat.le_refl i)];rfl,λq hq=>by omega,λ_ _=>rfl⟩ (λk r _ hk ⟨r1,r2,r3,r4⟩=>by
     have hkm:k<m:=by omega
     obtain⟨w1,w2⟩:=h2 k hkm
     obtain⟨w3,w4⟩:=w2 i hin
     obtain⟨a1,a2⟩:=h4 k hkm
     have hu:sE ((a k+1:Nat):Int)=a k+1:=by unfold sE;omega
     obtain⟨y,ey,y1,y2⟩:=Aa hp (x:=a k+1) w4 (by omega) (by omega)
     unfold lP
     rw[ix [] (by omega),bS,ix [] (by omega),bS,ix [] (by omega),bS,ix 0 (by omega),bS,a1,bS,hu,ey,bS,aM (by rw[r2];simp only[List.length_cons,List.length_nil];omega) (by rw[r2];simp only[List.length_cons,List.length_nil];omega),bS,bS]
     refine⟨_,rfl,by rw[List.length_set];exact r1,?_,λq hq=>?_,λi' hi'=>?_⟩
     ·rw[aN (by omega),if_pos rfl,List.length_append,r2];rfl
     ·rw[aN (by omega),if_pos rfl]
      by_cases g:q<k
      ·rw[cA (by omega)];exact r3 q g
      ·have:q=k:=by omega
       subst this
       rw[df r2.symm]
       exact⟨y1,y2⟩
     ·rw[aN (by omega),if_neg (λe=>hi' e.symm)];exact r4 i' hi')
   rw[Nat.zero_add] at r2 r3
   rw[er,bS]
   refine⟨_,rfl,r1,λi' hi'=>?_,λi' hi'=>?_⟩
   ·by_cases g:i'=i
    ·subst g;exact⟨r2,r3⟩
    ·rw[r4 i' g];exact l2 i' (by omega)
   ·rw[r4 i' (by omega)];exact l3 i' (by omega))
 rw[Nat.zero_add] at l2
 obtain⟨all,heard,views,es,a1,a2,a3,a4,a5,a6⟩:=KC (L:=500) (m:=m) s l1 (λi hi=>⟨λq hq=>by have:=l2 i hi;exact(this.2 q (by omega)).1,by rw[(l2 i hi).1];exact hm⟩) (by omega) (by omega) hv hb hr
 rw[el,bS,es,bS]
 simp only
 rw[a3,Nat.sub_zero]
 obtain⟨rows,e,b1,b2,_⟩:=bm (body:=λk3 (st:(List (List (List Nat))))=>lQ net.zw (heard,net.ah+1,views) k3 st) (rem:=n) (k:=0) (s:=List.replicate n ([]:List (List Nat)))
  (λj r=>r.length=n∧(∀j',j'<j→(r.getD j' []).length=m∧∀k,k<m→∃pts f at_ e,eh (wd all n j' k)=some pts∧en net.zw.S.P pts net.zw.S.T net.zw.S.T=some (f,at_,e)∧Lt net.zw.S.P f∧f.length≤t+1∧(r.getD j' []).getD k []=f++List.replicate (t+1-f.length) 0)∧∀j',j≤j'→r.getD j' []=[])
  ⟨by simp,λi hi=>by omega,λi _=>by by_cases g:i<n <;> simp[List.getD_eq_getElem?_getD,g]⟩ (λj r _ hj ⟨b1,b2,b3⟩=>by
   have hjn:j<n:=by omega
   obtain⟨c1,c2⟩:=a4 j hjn
   unfold lQ
   simp only
   rw[ix [] (by omega),bS,c1,Nat.sub_zero]
   obtain⟨q,eq,q1,q2,q3,q4⟩:=bm (body:=λk4 (st:(List (List (List Nat))))=>lR net.zw j (heard.getD j []) k4 st) (rem:=m) (k:=0) (s:=r)
    (λk q=>q.length=n∧(q.getD j []).length=k∧(∀k',k'<k→∃pts f at_ e,eh (wd all n j k')=some pts∧en net.zw.S.P pts net.zw.S.T net.zw.S.T=some (f,at_,e)∧Lt net.zw.S.P f∧f.length≤t+1∧(q.getD j []).getD k' []=f++List.replicate (t+1-f.length) 0)∧∀j',j'≠j→q.getD j' []=r.getD j' [])
    ⟨b1,by rw[b3 j (Nat.le_refl j)];rfl,λq hq=>by omega,λ_ _=>rfl⟩ (λk q _ hk ⟨q1,q2,q3,q4⟩=>by
     have hkm:k<m:=by omega
     have hwl:(wd all n j k).length=n:=C8
     have hwp:Lt net.zw.S.P (wd all n j k):=λi hi=>by
      rw[hwl] at hi
      rw[C7 hi]
      exact(a1.w i hi j hjn).1.get hp.pos k
     obtain⟨pts,ep,p1,p2⟩:=zk (w:=wd all n j k) (by omega)
     have hP:=Hl hp hwp (by omega) p1 p2
     obtain⟨f,at_,e,ed,f1,f2,_,_⟩:=y5 (deg:=t) (w:=t) hp hP (by omega) (by omega)
     have et:((t:Nat):Int)+1=((t+1:Nat):Int):=by omega
     have ef:((t+1:Nat):Int)-(f.length:Int)=((t+1-f.length:Nat):Int):=by omega
     unfold lR
     rw[ix [] (by omega),bS,c2 k hkm,ep,bS,s.T,ed,bS,ix [] (by omega),bS,bi (by omega) (by omega),bS,et]
     simp only
     rw[cb (by omega) (by omega),bS,ef,ci (by omega) (by omega) (by omega) (by omega),bS,Int.toNat_natCast,Cu (by rw[List.length_replicate];omega),bS,aM (by rw[q2];simp only[List.length_cons,List.length_nil];omega) (by rw[q2];simp only[List.length_cons,List.length_nil];omega),bS,bS]
     refine⟨_,rfl,by rw[List.length_set];exact q1,?_,λk' hk'=>?_,λj' hj'=>?_⟩
     ·rw[aN (by omega),if_pos rfl,List.length_append,q2];rfl
     ·rw[aN (by omega),if_pos rfl]
      by_cases g:k'<k
      ·rw[cA (by omega)];have:=q3 k' g;rw[s.T] at this;exact this
      ·have:k'=k:=by omega
       subst this
       rw[df q2.symm]
       exact⟨pts,f,at_,e,ep,ed,f1,f2,rfl⟩
     ·rw[aN (by omega),if_neg (λe=>hj' e.symm)];exact q4 j' hj')
   rw[Nat.zero_add] at q2 q3
   rw[eq,bS]
   refine⟨_,rfl,q1,λj' hj'=>?_,λj' hj'=>?_⟩
   ·by_cases g:j'=j
    ·subst g;exact⟨q2,q3⟩
    ·rw[q4 j' g];exact b2 j' (by omega)
   ·rw[q4 j' (by omega)];exact b3 j' (by omega))
 rw[Nat.zero_add] at b2
 rw[e,bS]
 exact⟨lists,all,rows,views,rfl,l2,a1,a2,b1,a5,b2,a6⟩
end Pu

/- Plain laws of interpolating symmetric polynomials. -/
set_option linter.unusedVariables false
namespace Pu
open Gw Gl Sp
theorem jF{α:Type}{n i:Nat}{v:Nat→α}{d:α}(h:i<n):((List.range n).map v).getD i d=v i:=by
 rw[List.getD_eq_getElem?_getD,List.getElem?_map,List.getElem?_range h];rfl
theorem kM{α:Type}{n:Nat}{v:Nat→α}:((List.range n).map v).length=n:=by simp
theorem ug{n i:Nat}{f:List Nat}(h:f.length≤n):(jd (List.replicate n 0) f).length=n∧(jd (List.replicate n 0) f).getD i 0=f.getD i 0:=by
 unfold jd
 rw[List.length_replicate,Nat.min_eq_left h,List.take_length,List.drop_replicate]
 refine⟨by simp;omega,?_⟩
 rw[List.getD_eq_getElem?_getD,List.getD_eq_getElem?_getD]
 by_cases g:i<f.length
 ·rw[List.getElem?_append_left g]
 ·rw[List.getElem?_append_right (by omega),List.getElem?_eq_none (show f.length≤i by omega),List.getElem?_replicate]
  split <;> rfl
section
variable {p:Nat}[NeZero p]
theorem ID(hp:fQ p){X:Nat→Fin p}{n:Nat}(ne:∀i j,i<n→j<n→i≠j→X i≠X j){f g:List (Fin p)}(hf:f.length≤n)(hg:g.length≤n)(h:∀i,i<n→bZ f (X i)=bZ g (X i))(i:Nat):cf f i=cf g i:=by
 refine pz hp.nz (xs:=(List.range n).map X) ?_ (by simpa using hf) (by simpa using hg) (λx hx=>?_) i
 ·rw[List.Nodup,List.pairwise_iff_getElem]
  intro i j hi hj hij
  simp only[List.length_map,List.length_range] at hi hj
  simp only[List.getElem_map,List.getElem_range]
  exact ne i j hi hj (by omega)
 ·obtain⟨i,hi,rfl⟩:=List.mem_map.1 hx
  exact h i (by simpa using hi)
theorem IC(f:List (Fin p)):bZ f 0=cf f 0:=by
 cases f with
 | nil=>rfl
 | cons a t=>rw[bZ,qn];grind
variable {xs:List Nat}{rows:List (List Nat)}{t N:Nat}
end
end Pu

/- Plain laws of sharings that stand: sums, nothing, the honest parties' matrix. -/
set_option linter.unusedVariables false
namespace Pu
open Gw Gl Sp
/-- the honest parties' rows belong to one symmetric polynomial, which is c at (0, 0) -/
structure y3(w:ae)[NeZero w.S.P](n t:Nat)(a:List (List Nat))(c:Fin w.S.P):Prop where
 l:a.length=n
 r:∀i,i<n→(a.getD i []).length=t+1∧Lt w.S.P (a.getD i [])
 cs:∀i,i<n→Hn w i→∀j,j<n→Hn w j→bZ (P w.S.P (a.getD i [])) (o w.S.P (j+1))=bZ (P w.S.P (a.getD j [])) (o w.S.P (i+1))
 sp:∀y,∃g:List (Fin w.S.P),g.length≤t+1∧(∀i,i<n→Hn w i→bZ (P w.S.P (a.getD i [])) y=bZ g (o w.S.P (i+1)))∧(y=0→bZ g 0=c)
theorem ML{l:List Nat}{k:Nat}(h:l.length≤k):l.getD k 0=0:=by
 rw[List.getD_eq_getElem?_getD,List.getElem?_eq_none h];rfl
theorem N0{f:Nat→Bool}:∀{l:List Nat},l.length=(l.filter f).length+(l.filter λx=>!f x).length
 | []=>rfl
 | a::t=>by
  have:=N0 (f:=f) (l:=t)
  cases h:f a <;> simp[h] <;> omega
section
variable {w:ae}{n t:Nat}
/-- the honest parties -/
def vg(w:ae)(k:Nat):List Nat:=(List.range k).filter λi=>decide ((((i:Nat):Int)+1)∉w.af)
theorem BG{k:Nat}:vg w (k+1)=vg w k++if(((k:Nat):Int)+1)∉w.af then[k] else[]:=by
 unfold vg
 rw[List.range_succ,List.filter_append]
 by_cases g:(((k:Nat):Int)+1)∉w.af
 ·rw[if_pos g,List.filter_cons,if_pos (by simpa using g),List.filter_nil]
 ·rw[if_neg g,List.filter_cons,if_neg (by simpa using g),List.filter_nil]
theorem Gx{k:Nat}:(vg w k).length≤k:=Nat.le_trans (List.length_filter_le ..) (by simp)
theorem un{i:Nat}(hi:i<(vg w n).length):(vg w n).getD i 0<n∧(((((vg w n).getD i 0:Nat)):Int)+1)∉w.af:=by
 obtain⟨h1,h2⟩:=List.mem_filter.1 (getD_in (d:=0) hi)
 exact⟨List.mem_range.1 h1,of_decide_eq_true h2⟩
theorem Gy{i j:Nat}(hi:i<(vg w n).length)(hj:j<(vg w n).length)(hij:i≠j):(vg w n).getD i 0≠(vg w n).getD j 0:=by
 have hpw:(vg w n).Pairwise (· < ·):=List.Pairwise.sublist List.filter_sublist List.pairwise_lt_range
 rw[List.getD_eq_getElem?_getD,List.getD_eq_getElem?_getD,List.getElem?_eq_getElem hi,List.getElem?_eq_getElem hj]
 show(vg w n)[i]≠(vg w n)[j]
 rcases Nat.lt_or_gt_of_ne hij with c | c
 ·have:=List.pairwise_iff_getElem.1 hpw i j (by omega) (by omega) c;omega
 ·have:=List.pairwise_iff_getElem.1 hpw j i (by omega) (by omega) c;omega
theorem Aq(s:Sc w n t):n≤(vg w n).length+t:=by
 have h1:((List.range n).filter λi=>!decide ((((i:Nat):Int)+1)∉w.af)).length≤t:=by
  rw[←List.length_map (f:=λi=>((i:Nat):Int)+1)]
  refine Nat.le_trans (xT ?_ λx hx=>?_) s.cl
  ·rw[List.Nodup,List.pairwise_map]
   exact List.Pairwise.imp (λ{a b} h=>by omega) (List.Pairwise.filter _ List.nodup_range)
  ·obtain⟨i,hi,rfl⟩:=List.mem_map.1 hx
   have:=(List.mem_filter.1 hi).2
   simpa using this
 have h2:=N0 (l:=List.range n) (f:=λi=>decide ((((i:Nat):Int)+1)∉w.af))
 rw[List.length_range] at h2
 show n≤((List.range n).filter λi=>decide ((((i:Nat):Int)+1)∉w.af)).length+t
 omega
end
section
variable {w:ae}[NeZero w.S.P]{n t:Nat}
theorem Qk{m i:Nat}:(List.replicate m 0).getD i 0=0:=by
 rw[List.getD_eq_getElem?_getD,List.getElem?_replicate];split <;> rfl
/-- polynomials are told apart by the honest parties -/
theorem xN(s:Sc w n t){f g:List (Fin w.S.P)}(hf:f.length≤2*t+1)(hg:g.length≤2*t+1)(h:∀i,i<n→(((i:Nat):Int)+1)∉w.af→bZ f (o w.S.P (i+1))=bZ g (o w.S.P (i+1)))(k:Nat):cf f k=cf g k:=by
 have hlt:=s.sup.lt
 have h3:=s.t3
 have h13:=s.n13
 have hl:=Aq s
 refine ID s.sup (X:=λi=>o w.S.P ((vg w n).getD i 0+1)) (n:=(vg w n).length) (λi j hi hj hij e=>?_) (by omega) (by omega) (λi hi=>h _ (un hi).1 (un hi).2) k
 have h1:=(un hi).1
 have h2:=(un hj).1
 have:=pZ (p:=w.S.P) (by omega) (by omega) e
 exact Gy hi hj hij (by omega)
/-- the rows of a symmetric matrix -/
theorem y3.rows(s:Sc w n t)(ht:t≤2){M:List (List Nat)}(hM:qR w.S.P (t+1) (t+1) M)(hs:∀i,i<t+1→∀j,j<t+1→(M.getD i []).getD j 0=(M.getD j []).getD i 0){a:List (List Nat)}(hl:a.length=n)(ha:∀i,i<n→a.getD i []=Rw w.S.P M (i+1)):y3 w n t a (o w.S.P ((M.getD 0 []).getD 0 0)):=by
 have hp:=s.sup
 have hlt:=hp.lt
 have h13:=s.n13
 have hw:=λi (hi:i<n)=>pE hp hM (by omega) (show i+1<w.S.P by omega)
 refine⟨hl,λi hi=>by rw[ha i hi];exact⟨(hw i hi).2.2.1,(hw i hi).2.2.2.1⟩,λi hi _ j hj _=>?_,λy=>⟨(List.range (t+1)).map λb=>sm (t+1) λa=>o w.S.P ((M.getD b []).getD a 0)*y ^ a,by simp,λi hi _=>?_,λhy=>?_⟩⟩
 ·rw[ha i hi,ha j hj]
  have e1:=(jq hp (hw i hi).2.2.2.1 (show j+1<w.S.P by omega) (by rw[(hw i hi).2.2.1];omega)).2.2
  have e2:=(jq hp (hw j hj).2.2.2.1 (show i+1<w.S.P by omega) (by rw[(hw j hj).2.2.1];omega)).2.2
  rw[←e1,←e2,xP hp hM hs (by omega) (by omega) (by omega)]
 ·rw[ha i hi,mK (n:=t+1) (by rw[(hw i hi).2.2.1];exact Nat.le_refl _),yi (n:=t+1) _ (by simp)]
  have e1:sm (t+1) (λj=>o w.S.P ((Rw w.S.P M (i+1)).getD j 0)*y ^ j)=sm (t+1) λj=>sm (t+1) λk=>o w.S.P ((M.getD k []).getD j 0)*y ^ j*o w.S.P (i+1) ^ k:=bY λj hj=>by
   rw[(hw i hi).2.2.2.2 j hj]
   have:∀z:Fin w.S.P,sm (t+1) (λk=>o w.S.P ((M.getD k []).getD j 0)*o w.S.P (i+1) ^ k)*z=z*sm (t+1) (λk=>o w.S.P ((M.getD k []).getD j 0)*o w.S.P (i+1) ^ k):=λz=>by grind
   rw[this,←nW]
   exact bY λk _=>by grind
  rw[e1,xR]
  exact bY λk hk=>by
   show _=((List.range (t+1)).map λb=>sm (t+1) λa=>o w.S.P ((M.getD b []).getD a 0)*y ^ a).getD k 0*_
   rw[jF hk]
   have:∀z:Fin w.S.P,sm (t+1) (λa=>o w.S.P ((M.getD k []).getD a 0)*y ^ a)*z=z*sm (t+1) (λa=>o w.S.P ((M.getD k []).getD a 0)*y ^ a):=λz=>by grind
   rw[this,←nW]
   exact bY λa _=>by grind
 ·rw[IC,hy]
  show((List.range (t+1)).map λb=>sm (t+1) λa=>o w.S.P ((M.getD b []).getD a 0)*0 ^ a).getD 0 0=_
  rw[jF (by omega),B6,sg λj _=>by grind]
  grind
end
end Pu

/- Plain laws of refreshing: the complaints. -/
set_option linter.unusedVariables false
namespace Pu
open Gw Gl Sp
theorem divN{a b:Nat}(hb:0<b)(ha:a<9223372036854775808):xz ((a:Nat):Int) ((b:Nat):Int)=some ((a / b:Nat):Int):=by
 unfold xz
 rw[if_neg (by omega)]
 have h:((a:Nat):Int).tdiv ((b:Nat):Int)=((a / b:Nat):Int):=rfl
 rw[h]
 have:=Nat.div_le_self a b
 clear h
 generalize a / b=q at *
 exact pR (by omega) (by omega)
theorem Qj{a b:Nat}(hb:0<b):Ht ((a:Nat):Int) ((b:Nat):Int)=some ((a % b:Nat):Int):=by
 unfold Ht
 rw[if_neg (by omega)];rfl
theorem B2{α:Type}{body:Nat→List α→Option (List α)}(v:Nat→α){n:Nat}(h:∀j l,j<n→l.length=j→body (j+1) l=some (l++[v j])):cZ body n 1 []=some ((List.range n).map v):=by
 obtain⟨r,e,h2⟩:=bm (body:=body) (λk l=>l=(List.range (k-1)).map v) (rem:=n) (k:=1) (s:=[]) rfl (λj l h1 hj hl=>by
  subst hl
  obtain⟨i,rfl⟩:∃i,j=i+1:=⟨j-1,by omega⟩
  refine⟨_,h i _ (by omega) (by simp),?_⟩
  show _=List.map v (List.range (i+1))
  rw[List.range_succ,List.map_append];rfl)
 rw[e,h2,Nat.add_sub_cancel_left]
/-- q is at times u -/
def hl(p i:Nat)(u q:List Nat):Bool:=decide (q.getD 0 0=(i+1)*u.getD 0 0 % p)
/-- a row of a result -/
def yE(res:aT)(i d k:Nat):List Nat:=((res.Rows.getD i []).getD d []).getD k []
/-- a result's form: c rows of each dealer -/
structure Fm(p n t c:Nat)(res:aT):Prop where
 rl:res.Rows.length=n
 dl:res.be.length=n
 row:∀i,i<n→(res.Rows.getD i []).length=n
 many:∀i,i<n→∀d,d<n→((res.Rows.getD i []).getD d []).length=c
 ww:∀i,i<n→∀d,d<n→∀k,k<c→(yE res i d k).length=t+1∧Lt p (yE res i d k)
theorem Pg.fm{w:ae}{tapes:List (List Nat)}{q:List (List (List Nat))}{n t c:Nat}{res:aT}(r:Pg w tapes q n t res)(hc:∀d,d<n→(q.getD d []).length=c):Fm w.S.P n t c res :=
 ⟨r.rl,r.dl,r.row,λi hi d hd=>by rw[r.many i hi d hd,hc d hd],λi hi d hd k hk=>r.ww i hi d hd k (by rw[hc d hd];exact hk)⟩
/-- a sharing -/
def shr(res:aT)(n d k:Nat):List (List Nat):=(List.range n).map λi=>yE res i d k
section
variable {p n t c:Nat}{res:aT}
theorem AK{d k:Nat}:(shr res n d k).length=n:=kM
theorem lJ{i d k:Nat}(hi:i<n):(shr res n d k).getD i []=yE res i d k:=jF hi
theorem KH(F:Fm p n t c res)(hn:n≤100)(hc:c≤10){d k:Nat}(hd:d<n)(hk:k<c):oa res ((d+1:Nat):Int) ((k:Nat):Int)=some (shr res n d k):=by
 have e0:((d+1:Nat):Int)-1=((d:Nat):Int):=by omega
 unfold oa
 rw[Nat.sub_zero,F.rl,fA (λi=>yE res i d k) (λi l hi hl=>by
  unfold rA
  rw[ix [] (by rw[F.rl];exact hi),bS,cb (by omega) (by omega),bS,e0,aS [] (by omega) (by rw[F.row i hi];omega),bS,Int.toNat_natCast,aS [] (by omega) (by rw[F.many i hi d hd];omega),bS,Int.toNat_natCast,aM (by simp only[List.length_cons,List.length_nil];omega) (by simp only[List.length_cons,List.length_nil];omega),bS]
  rfl),bS]
 rfl
/-- the complaints that were heard, about dealers that are not disqualified -/
def Fp(n m:Nat)(dq:Nat→Bool)(h:List (List Nat))(k:Nat):List (Nat×Nat×Nat):=(List.range k).flatMap λi=>((List.range (n*m)).filter λa=>decide ((h.getD i []).getD a 0≠0)&&!dq (a / m)).map λa=>(i,a / m,a % m)
theorem IA{m:Nat}{dq:Nat→Bool}{h:List (List Nat)}{x:Nat×Nat×Nat}(hm:0<m):x∈Fp n m dq h n↔x.1<n∧x.2.1<n∧x.2.2<m∧(h.getD x.1 []).getD (x.2.1*m+x.2.2) 0≠0∧dq x.2.1=false:=by
 unfold Fp
 rw[List.mem_flatMap]
 constructor
 ·rintro⟨i,hi,hx⟩
  obtain⟨a,ha,rfl⟩:=List.mem_map.1 hx
  obtain⟨h1,h2⟩:=List.mem_filter.1 ha
  rw[Bool.and_eq_true] at h2
  have h3:=of_decide_eq_true h2.1
  have h4:dq (a / m)=false:=by simpa using h2.2
  have h5:a<n*m:=by simpa using h1
  have e:=Nat.div_add_mod' a m
  refine⟨by simpa using hi,?_,Nat.mod_lt _ hm,?_,h4⟩
  ·show a / m<n
   exact Nat.div_lt_of_lt_mul (by rw[Nat.mul_comm];exact h5)
  ·show(h.getD i []).getD (a / m*m+a % m) 0≠0
   rw[e];exact h3
 ·rintro⟨h1,h2,h3,h4,h5⟩
  obtain⟨i,d,k⟩:=x
  simp only at h1 h2 h3 h4 h5
  have e1:(d*m+k) / m=d:=by rw[Nat.mul_comm,Nat.mul_add_div hm,Nat.div_eq_of_lt h3,Nat.add_zero]
  have e2:(d*m+k) % m=k:=by rw[Nat.mul_comm,Nat.mul_add_mod,Nat.mod_eq_of_lt h3]
  refine⟨i,by simpa using h1,List.mem_map.2 ⟨d*m+k,List.mem_filter.2 ⟨?_,?_⟩,by rw[e1,e2]⟩⟩
  ·rw[List.mem_range]
   calc d*m+k<d*m+m:=by omega
    _=(d+1)*m:=by rw[Nat.succ_mul]
    _≤n*m:=Nat.mul_le_mul_right m h2
  ·rw[e1,h5,Bool.and_eq_true]
   exact⟨decide_eq_true h4,rfl⟩
theorem z7{m:Nat}{dq:Nat→Bool}{h:List (List Nat)}:∀{k:Nat},(Fp n m dq h k).length≤k*(n*m)
 | 0=>by simp[Fp]
 | k+1=>by
  have ih:=z7 (m:=m) (dq:=dq) (h:=h) (k:=k)
  have:(Fp n m dq h (k+1)).length=(Fp n m dq h k).length+((List.range (n*m)).filter λa=>decide ((h.getD k []).getD a 0≠0)&&!dq (a / m)).length:=by
   unfold Fp
   rw[List.range_succ,List.flatMap_append,List.length_append]
   simp
  have h2:((List.range (n*m)).filter λa=>decide ((h.getD k []).getD a 0≠0)&&!dq (a / m)).length≤n*m:=Nat.le_trans (List.length_filter_le ..) (by simp)
  rw[this,Nat.succ_mul];omega
end
end Pu

/- Plain laws of refreshing: the judgement of the complaints. -/
set_option linter.unusedVariables false
namespace Pu
open Gw Gl Sp
/-- opened rows are the honest parties' -/
theorem Hw{net:ai}{n t m B:Nat}[NeZero net.zw.S.P](s:Sc net.zw n t){w:List (List (List Nat))}{ats:List Int}(hm:m≤500)(h1:w.length=m)(hm0:0<m)(h2:∀k,k<m→(w.getD k []).length=n∧∀i,i<n→((w.getD k []).getD i []).length≤100∧Lt net.zw.S.P ((w.getD k []).getD i []))
  (h3:ats.length=m) {a:Nat→Nat} (h4:∀k,k<m→ats.getD k 0=((a k+1:Nat):Int)∧a k<n) (hv:VB n B net.av) (hB:B≤500) (hr:0≤net.ah∧net.ah≤1000) {f0:Nat→List Nat}
  (hf:∀k,k<m→(f0 k).length≤t+1∧∀i,i<n→(((i:Nat):Int)+1)∉net.zw.af→bZ (P net.zw.S.P ((w.getD k []).getD i [])) (o net.zw.S.P (a k+1))=bZ (P net.zw.S.P (f0 k)) (o net.zw.S.P (i+1))) :
  ∃rows views,iB net w ats=some (rows,net.ah+1,views)∧rows.length=n∧(∀j,j<n→(rows.getD j []).length=m∧∀k,k<m→((rows.getD j []).getD k []).length=t+1∧Lt net.zw.S.P ((rows.getD j []).getD k [])∧∀i,o net.zw.S.P (((rows.getD j []).getD k []).getD i 0)=o net.zw.S.P ((f0 k).getD i 0))∧VB n (B+n) views:=by
 have hp:=s.sup
 obtain⟨lists,all,rows,views,e,l1,sq,hall,rl,vl,hrow,hvw⟩:=rows_ok s hm h1 hm0 h2 h3 h4 hv.1 (λj hj=>Nat.le_trans (hv.2 j hj) hB) hr
 refine⟨rows,views,e,rl,λj hj=>⟨(hrow j hj).1,λk hk=>?_⟩,vl,λj hj=>?_⟩
 ·obtain⟨pts,f,at_,e0,ep,ed,f1,f2,f3⟩:=(hrow j hj).2 k hk
  obtain⟨pts',f',at',ep',ed',g1,g2,g3⟩:=Gu s sq (k:=k) hj (hf k hk).1 (λi hi hc=>by
   rw[hall i hi hc j hj,((l1 i hi).2 k hk).2,(hf k hk).2 i hi hc])
  have h5:=Option.some.inj (ep.symm.trans ep')
  subst h5
  have h6:=Option.some.inj (ed.symm.trans ed')
  have h7:f=f':=congrArg Prod.fst h6
  subst h7
  have hg:∀i,(f++List.replicate (t+1-f.length) 0).getD i 0=f.getD i 0:=λi=>by
   rw[List.getD_eq_getElem?_getD,List.getD_eq_getElem?_getD]
   by_cases g:i<f.length
   ·rw[List.getElem?_append_left g]
   ·rw[List.getElem?_append_right (by omega),List.getElem?_eq_none (show f.length≤i by omega),List.getElem?_replicate]
    split <;> rfl
  rw[f3]
  refine⟨by rw[List.length_append,List.length_replicate];omega,λi hi=>?_,λi=>?_⟩
  ·rw[hg];exact f1.get hp.pos i
  ·rw[hg];exact g3.1 i
 ·rw[hvw j hj,List.length_append]
  have:=hv.2 j hj
  have:(Bu net.ah all j n).length≤n:=Ab
  omega
end Pu

/- Plain laws of refreshing: drawing, and the sharings of nothing. -/
set_option linter.unusedVariables false
namespace Pu
open Gw Gl Sp
/-- sharings stand -/
theorem Com.std{w:ae}[NeZero w.S.P]{q:List (List (List Nat))}{n t c:Nat}{res:aT}(s:Sc w n t)(C:Com w q n t res)(F:Fm w.S.P n t c res)(hc:∀d,d<n→(q.getD d []).length=c){d k:Nat}(hd:d<n)(hk:k<c):∃z,y3 w n t (shr res n d k) z:=by
 have hp:=s.sup
 have hlt:=hp.lt
 have h13:=s.n13
 have h3:=s.t3
 have hk':k<(q.getD d []).length:=by rw[hc d hd];exact hk
 obtain⟨f0,a1,a2,a3⟩:=C.sp d hd k hk' 0
 refine⟨bZ (P w.S.P f0) 0,AK,λi hi=>by rw[lJ hi];exact F.ww i hi d hd k hk,λi hi hhi j hj hhj=>?_,λy=>?_⟩
 ·rw[lJ hi,lJ hj]
  obtain⟨b1,b2⟩:=F.ww i hi d hd k hk
  obtain⟨c1,c2⟩:=F.ww j hj d hd k hk
  have e1:=(jq hp b2 (show j+1<w.S.P by omega) (by omega)).2.2
  have e2:=(jq hp c2 (show i+1<w.S.P by omega) (by omega)).2.2
  rw[←e1,←e2]
  exact congrArg _ (C.cs d hd k hk' i hi hhi j hj hhj)
 ·by_cases g:y=0
  ·subst g
   exact⟨P w.S.P f0,by rw[mG];exact a2,λi hi hh=>by rw[lJ hi];exact a3 i hi hh,λ_=>rfl⟩
  ·obtain⟨f,b1,b2,b3⟩:=C.sp d hd k hk' y
   exact⟨P w.S.P f,by rw[mG];exact b2,λi hi hh=>by rw[lJ hi];exact b3 i hi hh,λh=>absurd h g⟩
section
variable {w:ae}[NeZero w.S.P]{n t:Nat}
/-- what is opened for an honest party -/
theorem G2(s:Sc w n t){a:List (List Nat)}{c:Fin w.S.P}(A:y3 w n t a c){b:Nat}(hb:b<n)(hcb:(((b:Nat):Int)+1)∉w.af){f:List Nat}(hf:f.length≤t+1)(h:∀i,i<n→(((i:Nat):Int)+1)∉w.af→bZ (P w.S.P (a.getD i [])) (o w.S.P (b+1))=bZ (P w.S.P f) (o w.S.P (i+1))):o w.S.P (f.getD 0 0)=o w.S.P ((a.getD b []).getD 0 0):=by
 have:=xN s (f:=P w.S.P f) (g:=P w.S.P (a.getD b [])) (by rw[mG];omega) (by rw[mG,(A.r b hb).1];omega) (λi hi hc=>by rw[←h i hi hc,A.cs i hi (.inl hc) b hb (.inl hcb)]) 0
 rwa [oe,oe] at this
/-- what is opened of an honest dealer -/
theorem EM(s:Sc w n t)(ht:t≤2){M:List (List Nat)}(hM:qR w.S.P (t+1) (t+1) M)(hs:∀i,i<t+1→∀j,j<t+1→(M.getD i []).getD j 0=(M.getD j []).getD i 0){b:Nat}(hb:b<n){f:List Nat}(hf:f.length≤t+1)(h:∀i,i<n→(((i:Nat):Int)+1)∉w.af→bZ (P w.S.P (Rw w.S.P M (i+1))) (o w.S.P (b+1))=bZ (P w.S.P f) (o w.S.P (i+1))):o w.S.P (f.getD 0 0)=bZ (P w.S.P (M.getD 0 [])) (o w.S.P (b+1)):=by
 have hp:=s.sup
 have hlt:=hp.lt
 have h13:=s.n13
 have hw:=λi (hi:i<n)=>pE hp hM (by omega) (show i+1<w.S.P by omega)
 have:=xN s (f:=P w.S.P f) (g:=P w.S.P (Rw w.S.P M (b+1))) (by rw[mG];omega) (by rw[mG,(hw b hb).2.2.1];omega) (λi hi hc=>by
  have e1:=(jq hp (hw i hi).2.2.2.1 (show b+1<w.S.P by omega) (by rw[(hw i hi).2.2.1];omega)).2.2
  have e2:=(jq hp (hw b hb).2.2.2.1 (show i+1<w.S.P by omega) (by rw[(hw b hb).2.2.1];omega)).2.2
  rw[←h i hi hc,←e1,←e2,xP hp hM hs (by omega) (by omega) (by omega)]) 0
 rw[oe,oe] at this
 rw[this,(hw b hb).2.2.2.2 0 (by omega),mK (n:=t+1) (by rw[hM.row 0 (by omega)];exact Nat.le_refl _)]
 exact bY λk hk=>by rw[hs k hk 0 (by omega)]
end
end Pu
