/- Plain laws of chapter 19: the values of rows of a symmetric matrix. -/
import Derived.Test.YtpjenmchinpgaaaGreatDoorPi
set_option linter.unusedVariables false
namespace Pu
open Gw Gl Sp
theorem xR{R:Type}[Lean.Grind.CommRing R]{m n:Nat}(f:Nat→Nat→R):sm m (λj=>sm n (λk=>f j k))=sm n (λk=>sm m (λj=>f j k)):=by
 induction m with
 | zero=>simp only[sm];rw[sg (λ_ _=>rfl)]
 | succ m ih=>simp only[sm];rw[ih,HF]
section
variable {p:Nat}[NeZero p]
theorem Hb(hp:fQ p){m x y:Nat}{M:List (List Nat)}(hM:qR p m m M)(hm:m≤10)(hx:x<p)(hy:y<p):o p (pB p (Rw p M x) y)=sm m (λj=>sm m (λk=>o p ((M.getD k []).getD j 0)*(o p x ^ k*o p y ^ j))):=by
 obtain⟨_,_,hl,ht,hv⟩:=pE hp hM hm hx
 rw[(jq hp ht hy (by omega)).2.2,yi (n:=m) _ (by rw[mG,hl];exact Nat.le_refl _)]
 refine bY λj hj=>?_
 rw[oe,hv j hj,Lean.Grind.CommRing.mul_comm,←nW]
 exact bY λk _=>by grind
/-- the value of the row at x at y is that of the row at y at x -/
theorem xP(hp:fQ p){m x y:Nat}{M:List (List Nat)}(hM:qR p m m M)(hs:∀i,i<m→∀j,j<m→(M.getD i []).getD j 0=(M.getD j []).getD i 0)(hm:m≤10)(hx:x<p)(hy:y<p):pB p (Rw p M x) y=pB p (Rw p M y) x:=by
 obtain⟨_,_,hl,ht,_⟩:=pE hp hM hm hx
 obtain⟨_,_,hl',ht',_⟩:=pE hp hM hm hy
 refine pZ (p:=p) (jq hp ht hy (by omega)).2.1 (jq hp ht' hx (by omega)).2.1 ?_
 rw[Hb hp hM hm hx hy,Hb hp hM hm hy hx,xR]
 refine bY λk hk=>bY λj hj=>?_
 rw[hs k hk j hj];grind
end
end Pu

/- Plain laws of chapter 19: the second round, and the flags of a party. -/
set_option linter.unusedVariables false
namespace Pu
open Gw Gl Sp
/-- who sends what it should: the honest ones, and all if nobody deviates -/
def Hn(w:ae)(i:Nat):Prop:=(((i:Nat):Int)+1)∉w.af∨w.aa=[]
/-- what has been noted is little -/
def VB(n B:Nat)(v:List (List am)):Prop:=v.length=n∧∀j,j<n→(v.getD j []).length≤B
theorem Ii{p q:Nat}{l:List Nat}(h:Lt p l)(hpq:p≤q):Lt q l:=λi hi=>Nat.lt_of_lt_of_le (h i hi) hpq
theorem wi{p n:Nat}{v:Nat→Nat}(h:∀k,k<n→v k<p):Lt p ((List.range n).map v):=λi hi=>by
 have hi:i<n:=by simpa using hi
 rw[List.getD_eq_getElem?_getD,List.getElem?_map,List.getElem?_range hi];exact h i hi
theorem bR{α:Type}{n i:Nat}{v:Nat→α}{d:α}(h:i<n):((List.range n).map v).getD i d=v i:=by
 rw[List.getD_eq_getElem?_getD,List.getElem?_map,List.getElem?_range h];rfl
/-- a loop that lengthens one row -/
theorem yA{α:Type}{body:Nat→List (List α)→Option (List (List α))}{n i a r:Nat}(w:Nat→α){l0:List (List α)}(hi:i<n)(h0:l0.length=n)
  (hb:∀q l,q<r→l.length=n→(l.getD i []).length=(l0.getD i []).length+q→body (a+q) l=some (l.set i (l.getD i []++[w q]))):cZ body r a l0=some (l0.set i (l0.getD i []++(List.range r).map w)):=by
 obtain⟨l,e,q,hq,h⟩:=bm (body:=body) (λk l=>∃q,k=a+q∧l=l0.set i (l0.getD i []++(List.range q).map w)) (rem:=r) (k:=a) (s:=l0) ⟨0,rfl,by
   rw[List.range_zero,List.map_nil,List.append_nil,qO (by omega)]⟩ (λk l hk1 hk ⟨q,hq,hl⟩=>by
  subst hq
  have hg:l.getD i []=l0.getD i []++(List.range q).map w:=by rw[hl,aN (by omega),if_pos rfl]
  refine⟨_,hb q l (by omega) (by rw[hl,List.length_set];exact h0) (by rw[hg,List.length_append,List.length_map,List.length_range]),q+1,by omega,?_⟩
  rw[hg,hl,List.set_set,List.range_succ,List.map_append,List.append_assoc];rfl)
 have:q=r:=by omega
 subst this
 rw[e,h]
/-- a loop that fills rows one after another -/
theorem yC{α:Type}{body:Nat→List (List α)→Option (List (List α))}{n:Nat}(v:Nat→List α)
  (hb:∀i l,i<n→l.length=n→l.getD i []=[]→body i l=some (l.set i (v i))):cZ body n 0 (List.replicate n [])=some ((List.range n).map v):=by
 obtain⟨l,e,h1,h2,h3⟩:=bm (body:=body) (λk l=>l.length=n∧(∀j,j<k→l.getD j []=v j)∧∀j,k≤j→j<n→l.getD j []=[]) (rem:=n) (k:=0) (s:=List.replicate n [])
  ⟨by simp,λj hj=>by omega,λj _ hj=>by rw[List.getD_eq_getElem?_getD,List.getElem?_replicate,if_pos hj];rfl⟩ (λk l _ hk ⟨h1,h2,h3⟩=>by
   have hkn:k<n:=by omega
   refine⟨_,hb k l hkn h1 (h3 k (Nat.le_refl k) hkn),by rw[List.length_set];exact h1,λj hj=>?_,λj hj hjn=>?_⟩
   ·rw[aN (by omega)]
    by_cases g:k=j
    ·rw[if_pos g,g]
    ·rw[if_neg g];exact h2 j (by omega)
   ·rw[aN (by omega),if_neg (by omega)];exact h3 j (by omega) hjn)
 rw[Nat.zero_add] at h2
 rw[e]
 congr 1
 refine List.ext_getElem? λi=>?_
 by_cases g:i<n
 ·rw[ix [] (by omega),h2 i g,List.getElem?_map,List.getElem?_range g];rfl
 ·rw[List.getElem?_eq_none (by omega),List.getElem?_eq_none (by simp;omega)]
theorem oy{p:Nat}{m:Nat→Nat}{Ri:List (List (List Nat))}{x d:Nat}:(nZ p (d+1) m Ri x).length=(nZ p d m Ri x).length+m d:=by
 unfold nZ
 rw[List.range_succ,List.map_append,List.flatten_append,List.length_append];simp
theorem ud{p:Nat}{m:Nat→Nat}{Ri:List (List (List Nat))}{x d:Nat}:∀ {n:Nat},d≤n→(nZ p d m Ri x).length≤(nZ p n m Ri x).length
  | 0, h => by have : d = 0 := by omega
               subst this;exact Nat.le_refl _
  | n+1,h=>by
    by_cases g:d=n+1
    · subst g;exact Nat.le_refl _
    · have:=ud (p:=p) (m:=m) (Ri:=Ri) (x:=x) (d:=d) (n:=n) (by omega)
      rw [oy];omega
theorem KT{p:Nat}{m:Nat→Nat}{A B:List (List (List Nat))}{x y d:Nat}:(nZ p d m A x).length=(nZ p d m B y).length:=by
 induction d with
 | zero=>unfold nZ;simp
 | succ d ih=>rw[oy,oy,ih]
theorem xU{p:Nat}{m:Nat→Nat}{Ri:List (List (List Nat))}{x:Nat}:∀{n d k:Nat},d<n→k<m d→(nZ p n m Ri x).getD ((nZ p d m Ri x).length+k) 0=pB p ((Ri.getD d []).getD k []) x
 | 0,d,k,h,_=>by omega
 | n+1,d,k,h,hk=>by
  have e:nZ p (n+1) m Ri x=nZ p n m Ri x++(List.range (m n)).map λk=>pB p ((Ri.getD n []).getD k []) x:=by
   unfold nZ
   rw[List.range_succ,List.map_append,List.flatten_append];simp
  rw[e]
  by_cases g:d=n
  ·subst g
   rw[List.getD_eq_getElem?_getD,List.getElem?_append_right (by omega),Nat.add_sub_cancel_left,←List.getD_eq_getElem?_getD,bR hk]
  ·have h1:=ud (p:=p) (m:=m) (Ri:=Ri) (x:=x) (show d+1≤n by omega)
   rw[oy] at h1
   rw[cA (by omega)]
   exact xU (by omega) hk
theorem J5{n d j d' j':Nat}(h:d*n+j=d'*n+j')(hj:j<n)(hj':j'<n):d=d'∧j=j':=by
 have h1:j=j':=by
  have:=congrArg (· % n) h
  rw[Nat.add_comm,Nat.add_mul_mod_self_right,Nat.add_comm,Nat.add_mul_mod_self_right,Nat.mod_eq_of_lt hj,Nat.mod_eq_of_lt hj'] at this
  exact this
 subst h1
 have:d*n=d'*n:=by omega
 exact⟨Nat.eq_of_mul_eq_mul_right (by omega) this,rfl⟩
section
variable {p:Nat}[NeZero p]{n t:Nat}{m:Nat→Nat}
theorem Nf(hp:fQ p){R:List (List (List (List Nat)))}(r:Rr p n t m R)(ht:t≤2){i x:Nat}(hi:i<n)(hx:x<p):Lt p (nZ p n m (R.getD i []) x):=by
 unfold nZ
 refine vK λd hd=>wi λk hk=>?_
 obtain⟨w1,w2⟩:=r.w i hi d hd k hk
 exact(jq hp w2 hx (by omega)).2.1
theorem Cr{ph:ao}(hp:ph.zs.P=p)(s:Sc ph.zn.zw n t)(ht:t≤2)(hz:ph.zs=ph.zn.zw.S)(r:Rr p n t m ph.zd.Rows){B:Nat}(hv:VB n B ph.zn.av)(hB:B≤500)(hr:0≤ph.zn.ah∧ph.zn.ah≤1000) :
  ∃all inn views,iT ph=some (inn,ph.zn.ah+1,views)∧inn.length=n∧(∀i,i<n→(inn.getD i []).length=n)∧(∀i,i<n→∀j,j<n→Hn ph.zn.zw j→(inn.getD i []).getD j []=nZ p n m (ph.zd.Rows.getD j []) (i+1))∧views.length=n∧(∀j,j<n→views.getD j []=ph.zn.av.getD j []++Bu ph.zn.ah all j n) ∧
   bP ph.zn.zw ph.zn.ah ((List.range n).map λi=>(List.range n).map λj=>nZ p n m (ph.zd.Rows.getD i []) (j+1))=some all∧∀i,i<n→∀j,j<n→(inn.getD i []).getD j []=(all.getD j []).getD i []:=by
 have h13:=s.n13
 have hN:ph.zs.N=(n:Int):=by rw[hz];exact s.N
 have hpw:ph.zn.zw.S.P=p:=by rw[←hz];exact hp
 have hsp:fQ p:=by rw[←hpw];exact s.sup
 have hlt:=hsp.lt
 have hm2:∀d,d<n→m d≤10:=r.m2
 have e1:cK ph (List.replicate n [])=some ((List.range n).map λi=>(List.range n).map λj=>nZ p n m (ph.zd.Rows.getD i []) (j+1)):=by
  have hmx:max 0 ph.zs.N.toNat=n:=by rw[hN];simp
  unfold cK
  rw[hmx,bJ (by omega),bS,Nat.sub_zero,yC (λi=>(List.range n).map λj=>nZ p n m (ph.zd.Rows.getD i []) (j+1)) (λi l hi hl h0=>by
   have hmx:max 1 (ph.zs.N+1).toNat=n+1:=by rw[hN];omega
   unfold eL jT
   rw[hmx,bJ (by omega),bS,Nat.add_sub_cancel,yA (λj=>nZ p n m (ph.zd.Rows.getD i []) (j+1)) hi hl (λq l' hq hl' hw=>by
    rw[h0] at hw
    simp only[List.length_nil] at hw
    unfold lr
    rw[aS [] (by omega) (by omega),bS,Nat.add_comm 1 q,xn hsp h13 ht hp r hi (by omega) (by omega),bS,Int.toNat_natCast,aM (by simp only[List.length_cons,List.length_nil];omega) (by simp only[List.length_cons,List.length_nil];omega),bS,bS]),bS,bS,h0,List.nil_append]),bS]
 have hsq:Sq p n 130 ((List.range n).map λi=>(List.range n).map λj=>nZ p n m (ph.zd.Rows.getD i []) (j+1)):=⟨by simp,λi hi=>by rw[bR hi];simp,λi hi j hj=>by
  rw[bR hi,bR hj]
  have:=xV (n:=n) (p:=p) (Ri:=ph.zd.Rows.getD i []) (x:=j+1) hm2
  exact⟨Nf hsp r ht hi (by omega),by omega⟩⟩
 obtain⟨all,inn,views,ea,es,⟨q1,_⟩,q2,i1,i2,v1,v2⟩:=AJ s (by rw[hpw];exact hsq) (by omega) hv.1 (λj hj=>Nat.le_trans (hv.2 j hj) hB) hr
 refine⟨all,inn,views,?_,i1,λi hi=>(i2 i hi).1,λi hi j hj hh=>?_,v1,v2,ea,λi hi j hj=>(i2 i hi).2 j hj⟩
 ·unfold iT
  rw[hN,ci (by omega) (by omega) (by omega) (by omega),bS,Int.toNat_natCast,e1,bS,es,bS]
 ·rw[(i2 i hi).2 j hj]
  rcases hh with hc | hc
  ·rw[q2 j hj hc,bR hj,bR hi]
  ·rw[xd s (by rw[hpw];exact hsq) hc ea,bR hj,bR hi]
theorem F1(hp:fQ p){ph:ao}{i:Nat}(hn:n≤7)(ht:t≤2)(hN:ph.zs.N=(n:Int))(hP:ph.zs.P=p)(hq:ph.zq.length=n)(hm:∀d,d<n→(ph.zq.getD d []).length=m d)(r:Rr p n t m ph.zd.Rows)(hi:i<n){heard:List (List Nat)}(hh:heard.length=n) :
  ∃F,dN ph ((i:Nat):Int) heard=some F∧F.length=n*n∧Lt 2 F∧((∀j,j<n→j≠i→heard.getD j []=nZ p n m (ph.zd.Rows.getD i []) (j+1))→∀k,F.getD k 0=0) ∧
   ∀j,j<n→∀d,d<n→(F.getD (d*n+j) 0≠0↔j≠i∧∃q,q<m d∧(heard.getD j []).getD ((nZ p d m (ph.zd.Rows.getD i []) (j+1)).length+q) 0≠pB p (((ph.zd.Rows.getD i []).getD d []).getD q []) (j+1)):=by
 have hlt:=hp.lt
 have hkeep:∀{l:List Nat} {a b:Nat},a<l.length→l.getD b 0≠0→(l.set a 1).getD b 0≠0:=λ{l a b} ha hb=>by
  rw[aN ha];split
  ·decide
  ·exact hb
 have hmx:max 0 ph.zs.N.toNat=n:=by rw[hN];simp
 have i1:((n:Nat):Int)*((n:Nat):Int)=((n*n:Nat):Int):=by rw[Int.natCast_mul]
 have hnn:n*n≤7*7:=Nat.mul_le_mul hn hn
 unfold dN
 rw[hmx,hN,iy (by rw[i1];omega) (by rw[i1];omega),i1,bS,ci (by omega) (by omega) (by omega) (by omega),bS,bJ (by omega),bS,Nat.sub_zero,Int.toNat_natCast]
 generalize hH:(∀j,j<n→j≠i→heard.getD j []=nZ p n m (ph.zd.Rows.getD i []) (j+1))=Hyp
 generalize hVi:(λ(j d q:Nat)=>(heard.getD j []).getD ((nZ p d m (ph.zd.Rows.getD i []) (j+1)).length+q) 0≠pB p (((ph.zd.Rows.getD i []).getD d []).getD q []) (j+1))=vi
 obtain⟨F,e,h1,h2,h3,hv,hw⟩:=bm (body:=λk1 (st:(List Nat))=>kq ph ((i:Nat):Int) heard k1 st) (rem:=n) (k:=0) (s:=List.replicate (n*n) 0)
  (λk l=>l.length=n*n∧Lt 2 l∧(Hyp→∀k,l.getD k 0=0)∧(∀j,j<k→j≠i→(∀d,d<n→∀q,q<m d→vi j d q→l.getD (d*n+j) 0≠0))∧(∀j',j'<n→∀d',d'<n→l.getD (d'*n+j') 0≠0→j'≠i∧∃q,q<m d'∧vi j' d' q)) ⟨by simp,λk hk=>by
   rw[List.length_replicate] at hk
   rw[List.getD_eq_getElem?_getD,List.getElem?_replicate,if_pos hk];decide,λ_ k=>by
   rw[List.getD_eq_getElem?_getD,List.getElem?_replicate];split <;> rfl,λj hj=>by omega,λj' _ d' _ h=>absurd (by rw[List.getD_eq_getElem?_getD,List.getElem?_replicate];split <;> rfl) h⟩ (λk l _ hk ⟨h1,h2,h3,hv,hw⟩=>by
   have hkn:k<n:=by omega
   unfold kq
   by_cases g:k=i
   ·rw[zz g,cT];exact⟨_,rfl,h1,h2,h3,λj hj hji=>hv j (by omega) hji,hw⟩
   have ek:((k:Nat):Int)+1=((k+1:Nat):Int):=by omega
   have hvl:=xV (n:=n) (p:=p) (Ri:=ph.zd.Rows.getD i []) (x:=k+1) r.m2
   obtain⟨c,ec,c1,c2⟩:=nS (l:=heard.getD k []) (m:=(nZ p n m (ph.zd.Rows.getD i []) (k+1)).length) (by omega)
   rw[Qr g,cF,bi (by omega) (by omega),bS,ek,xn hp (by omega) ht hP r hi (by omega) (by omega),bS,ix [] (by omega),bS,ec,bS,hq,Nat.sub_zero]
   have hsame:Hyp→∀a,a<c.length→c.getD a 0=(nZ p n m (ph.zd.Rows.getD i []) (k+1)).getD a 0:=λhy a ha=>by
    rw[←hH] at hy
    rw[c2 a (by omega),hy k hkn g]
   have hcc':∀d q,q<m d→d<n→c.getD ((nZ p d m (ph.zd.Rows.getD i []) (k+1)).length+q) 0=(heard.getD k []).getD ((nZ p d m (ph.zd.Rows.getD i []) (k+1)).length+q) 0∧(nZ p n m (ph.zd.Rows.getD i []) (k+1)).getD ((nZ p d m (ph.zd.Rows.getD i []) (k+1)).length+q) 0=pB p (((ph.zd.Rows.getD i []).getD d []).getD q []) (k+1):=λd q hq hd=>by
    have h1:=ud (p:=p) (m:=m) (Ri:=ph.zd.Rows.getD i []) (x:=k+1) (show d+1≤n by omega)
    rw[oy] at h1
    exact⟨c2 _ (by omega),xU hd hq⟩
   have hcv:∀d,d<n→∀q,q<m d→vi k d q→c.getD ((nZ p d m (ph.zd.Rows.getD i []) (k+1)).length+q) 0≠(nZ p n m (ph.zd.Rows.getD i []) (k+1)).getD ((nZ p d m (ph.zd.Rows.getD i []) (k+1)).length+q) 0:=λd hd q hq hvi=>by
    have h1:=ud (p:=p) (m:=m) (Ri:=ph.zd.Rows.getD i []) (x:=k+1) (show d+1≤n by omega)
    rw[oy] at h1
    rw[c2 _ (by omega),xU hd hq]
    rw[←hVi] at hvi;exact hvi
   generalize hV:nZ p n m (ph.zd.Rows.getD i []) (k+1)=V at *
   obtain⟨⟨l',a'⟩,e',g1,g2,g3,g4,g5,g6,g7⟩:=bm (body:=λk2 (st:(List Nat)×Int)=>fH ph k V c k2 st.1 st.2) (rem:=n) (k:=0) (s:=(l,((0:Nat):Int)))
    (λd st=>st.1.length=n*n∧Lt 2 st.1∧(Hyp→∀k,st.1.getD k 0=0)∧st.2=(((nZ p d m (ph.zd.Rows.getD i []) (k+1)).length:Nat):Int)∧(∀j,j<k→j≠i→∀d,d<n→∀q,q<m d→vi j d q→st.1.getD (d*n+j) 0≠0)∧(∀d',d'<d→∀q,q<m d'→vi k d' q→st.1.getD (d'*n+k) 0≠0)∧(∀j',j'<n→∀d',d'<n→st.1.getD (d'*n+j') 0≠0→j'≠i∧∃q,q<m d'∧vi j' d' q)) ⟨h1,h2,h3,by simp[nZ],hv,λd' hd'=>by omega,hw⟩ (λd st _ hd ⟨g1,g2,g3,g4,g5,g6,g7⟩=>by
     obtain⟨l0,a0⟩:=st
     simp only at g1 g2 g3 g4 g5 g6 g7
     subst g4
     have hdn:d<n:=by omega
     have hoff:(nZ p (d+1) m (ph.zd.Rows.getD i []) (k+1)).length≤V.length:=by rw[←hV];exact ud hdn
     rw[oy] at hoff
     unfold fH
     simp only
     rw[ix [] (by omega),bS,hm d hdn,Nat.sub_zero]
     obtain⟨⟨l2,a2⟩,e2,f1,f2,f3,f4,f5,f6,f7,f8⟩:=bm (body:=λk3 (st:(List Nat)×Int)=>fI ph k V c d k3 st.1 st.2) (rem:=m d) (k:=0) (s:=(l0,(((nZ p d m (ph.zd.Rows.getD i []) (k+1)).length:Nat):Int)))
      (λq st=>st.1.length=n*n∧Lt 2 st.1∧(Hyp→∀k,st.1.getD k 0=0)∧st.2=(((nZ p d m (ph.zd.Rows.getD i []) (k+1)).length+q:Nat):Int)∧(∀j,j<k→j≠i→∀d,d<n→∀q,q<m d→vi j d q→st.1.getD (d*n+j) 0≠0)∧(∀d',d'<d→∀q,q<m d'→vi k d' q→st.1.getD (d'*n+k) 0≠0)∧(∀q',q'<q→vi k d q'→st.1.getD (d*n+k) 0≠0)∧(∀j',j'<n→∀d',d'<n→st.1.getD (d'*n+j') 0≠0→j'≠i∧∃q,q<m d'∧vi j' d' q)) ⟨g1,g2,g3,rfl,g5,g6,λq' hq'=>by omega,g7⟩ (λq st _ hq2 ⟨f1,f2,f3,f4,f5,f6,f7,f8⟩=>by
       obtain⟨l1,a1⟩:=st
       simp only at f1 f2 f3 f4 f5 f6 f7 f8
       subst f4
       have hqm:q<m d:=by omega
       have hcq:=hcv d hdn q hqm
       have hcc:=λq hq (hd:d<n)=>hcc' d q hq hd
       generalize hA:(nZ p d m (ph.zd.Rows.getD i []) (k+1)).length+q=A at *
       have hAV:A<V.length:=by omega
       unfold fI
       simp only
       rw[aS 0 (by omega) (by omega),bS,aS 0 (by omega) (by omega),bS,Int.toNat_natCast]
       by_cases gq:c.getD A 0=V.getD A 0
       ·rw[qF (by rw[gq]),cF,bi (by omega) (by omega),bS]
        refine⟨_,rfl,f1,f2,f3,by show _=_;omega,f5,f6,λq' hq' hvi=>?_,f8⟩
        by_cases gg:q'=q
        ·subst gg;exact absurd gq (hcq hvi)
        ·exact f7 q' (by omega) hvi
       ·have i2:((d:Nat):Int)*((n:Nat):Int)=((d*n:Nat):Int):=by rw[Int.natCast_mul]
        have hdd:(d+1)*n≤n*n:=Nat.mul_le_mul_right _ hdn
        rw[Nat.add_mul,Nat.one_mul] at hdd
        have i3:((d*n:Nat):Int)+((k:Nat):Int)=((d*n+k:Nat):Int):=by omega
        rw[qT (by omega),cT,hN,iy (by rw[i2];omega) (by rw[i2];omega),bS,i2,bi (by omega) (by omega),bS,i3,aS 0 (by omega) (by omega),bS,bS,bi (by omega) (by omega),bS]
        refine⟨_,rfl,by show(l1.set _ _).length=_;rw[List.length_set];exact f1,wj f2 (by decide),λhy=>absurd (hsame hy A (by omega)) gq,by show _=_;omega,λj hj hji d' hd' q' hq' hvi=>hkeep (by omega) (f5 j hj hji d' hd' q' hq' hvi),λd' hd' q' hq' hvi=>hkeep (by omega) (f6 d' hd' q' hq' hvi),λq' hq' hvi=>?_,λj' hj' d' hd' hne=>?_⟩
        ·show(l1.set _ 1).getD _ 0≠0
         rw[Int.toNat_natCast,aN (by omega),if_pos rfl];decide
        ·have hne:(l1.set ((d*n+k:Nat):Int).toNat 1).getD (d'*n+j') 0≠0:=hne
         rw[Int.toNat_natCast,aN (by omega)] at hne
         by_cases gg:d*n+k=d'*n+j'
         ·obtain⟨rfl,rfl⟩:=J5 gg hkn hj'
          refine⟨g,q,hqm,?_⟩
          rw[←hVi]
          intro hh
          have:=hcc q hqm hdn
          exact gq (by rw[←hA,this.1,this.2];exact hh)
         ·rw[if_neg gg] at hne;exact f8 j' hj' d' hd' hne)
     rw[Nat.zero_add] at f4
     rw[Nat.zero_add] at f7
     simp only at f1 f2 f3 f4 f5 f6 f7 f8
     rw[e2,bS]
     refine⟨_,rfl,f1,f2,f3,?_,f5,λd' hd' q' hq' hvi=>?_,f8⟩
     ·show a2=_
      rw[oy];exact f4
     ·by_cases gg:d'=d
      ·subst gg;exact f7 q' hq' hvi
      ·exact f6 d' (by omega) q' hq' hvi)
   rw[Nat.zero_add] at g6
   rw[e',bS]
   refine⟨_,rfl,g1,g2,g3,λj hj hji d hd q hq hvi=>?_,g7⟩
   by_cases gg:j=k
   ·subst gg;exact g6 d hd q hq hvi
   ·exact g5 j (by omega) hji d hd q hq hvi)
 rw[Nat.zero_add] at hv
 refine⟨F,by rw[e,bS],h1,h2,λhy=>h3 hy,λj hj d hd=>⟨λhne=>?_,λ⟨hji,q,hq,hvi⟩=>hv j hj hji d hd q hq ?_⟩⟩
 ·obtain⟨c1,q,c2,c3⟩:=hw j hj d hd hne
  rw[←hVi] at c3
  exact⟨c1,q,c2,c3⟩
 ·rw[←hVi];exact hvi
end
end Pu

/- Plain laws of chapter 19: the third round, and the whole first half. -/
set_option linter.unusedVariables false
namespace Pu
open Gw Gl Sp
theorem D8{n B:Nat}{v v':List (List am)}{all:List (List (List Nat))}{round:Int}(hl:v'.length=n)(h:∀j,j<n→v'.getD j []=v.getD j []++Bu round all j n)(hb:VB n B v):VB n (B+n) v':=⟨hl,λj hj=>by
 rw[h j hj,List.length_append]
 have:=hb.2 j hj
 have:=Ab (round:=round) (all:=all) (j:=j) (k:=n)
 omega⟩
/-- a broadcast -/
theorem Dh{net:ai}{n t L B:Nat}(s:Sc net.zw n t){out:List (List Nat)}(ho:Bl net.zw.S.P n L out)(hL:L≤1000)(hv:VB n B net.av)(hB:B≤500)(hr:0≤net.ah∧net.ah≤1000) :
  ∃all views,cu net out=some (all,net.ah+1,views)∧Bl net.zw.S.P n L all∧(∀i,i<n→Hn net.zw i→all.getD i []=out.getD i [])∧VB n (B+n) views ∧
   bk net.zw net.ah out=some all∧∀j,j<n→views.getD j []=net.av.getD j []++y6 net.ah all j n:=by
 obtain⟨all,views,e,ea,b1,b2,b3,b4,b5⟩:=Ba s ho hL hv.1 (λj hj=>Nat.le_trans (hv.2 j hj) hB) hr
 refine⟨all,views,e,b1,λi hi hh=>?_,⟨b4,λj hj=>?_⟩,ea,b5⟩
 ·rcases hh with hc | hc
  ·exact b2 i hi hc
  ·rw[b3 hc]
 ·rw[b5 j hj,List.length_append]
  have:=hv.2 j hj
  have:=z9 (round:=net.ah) (all:=all) (j:=j) (k:=n)
  omega
theorem Gp{l:List Nat}{w m k c:Nat}(hk:k<m)(hc:c<w):((got l w m).getD k []).getD c 0=l.getD (k*w+c) 0:=by
 rw[rR hk,bR hc]
theorem z6{ph:ao}{n i:Nat}(hN:ph.zs.N=(n:Int))(hn:n≤7){all:List (List Nat)}(hl:all.length=n)(hi:i<n)(h0:ph.zd.aO.length=n)(h4:ph.zd.aO.getD i []=[]) :
  gv ((i:Nat):Int) all ph=some ⟨ph.zd.S,ph.zd.Rows,ph.zd.aO.set i (got (all.getD i []) n n)⟩:=by
 have hmx:max 0 ph.zs.N.toNat=n:=by rw[hN];simp
 have i1:((n:Nat):Int)*((n:Nat):Int)=((n*n:Nat):Int):=by rw[Int.natCast_mul]
 have hnn:n*n≤7*7:=Nat.mul_le_mul hn hn
 obtain⟨r,er,r1,r2⟩:=nS (l:=all.getD i []) (m:=n*n) (by omega)
 unfold gv
 rw[hmx,hN,aS [] (by omega) (by omega),bS,Int.toNat_natCast,iy (by rw[i1];omega) (by rw[i1];omega),i1,bS,er,bS,bJ (by omega),bS,Nat.sub_zero,
  yA (λk=>(List.range n).map λc=>(all.getD i []).getD (k*n+c) 0) hi h0 (λq l hq hl' hw=>by
   rw[h4] at hw
   simp only[List.length_nil] at hw
   obtain⟨c1,c2,c3⟩:=FK (l:=all.getD i []) (k:=q) (w:=n) (m:=n) r1 r2 hq (by omega) (by omega) (by omega)
   unfold kP
   rw[Nat.zero_add,hN,aS [] (by omega) (by omega),bS,Int.toNat_natCast,c1,bS,bi (by omega) (by omega),bS,c2,bS,c3,bS,aM (by simp only[List.length_cons,List.length_nil];omega) (by simp only[List.length_cons,List.length_nil];omega),bS,bS]),bS,h4,List.nil_append]
 rfl
section
variable {p:Nat}[NeZero p]{n t:Nat}{m:Nat→Nat}
theorem Bh{ph:ao}(hp:ph.zs.P=p)(s:Sc ph.zn.zw n t)(hn:n≤7)(ht:t≤2)(hz:ph.zs=ph.zn.zw.S)(hq:ph.zq.length=n)(hm:∀d,d<n→(ph.zq.getD d []).length=m d)(r:Rr p n t m ph.zd.Rows)(hF:ph.zd.aO=List.replicate n []){heard:List (List (List Nat))}(hl:heard.length=n)(hh:∀i,i<n→(heard.getD i []).length=n){B:Nat}(hv:VB n B ph.zn.av)(hB:B≤500)(hr:0≤ph.zn.ah∧ph.zn.ah≤1000) :
  ∃(all:List (List Nat)) (views:List (List am)),ip ph heard=some (ph.zn.ah+1,views,⟨ph.zd.S,ph.zd.Rows,(List.range n).map λi=>got (all.getD i []) n n⟩)∧VB n (B+n) views ∧
   (ph.zn.zw.aa=[]→(∀i,i<n→∀j,j<n→j≠i→(heard.getD i []).getD j []=nZ p n m (ph.zd.Rows.getD i []) (j+1))→∀i,i<n→∀k,(all.getD i []).getD k 0=0) ∧
   ∃fl:Nat→List Nat,bk ph.zn.zw ph.zn.ah ((List.range n).map fl)=some all∧(∀j,j<n→views.getD j []=ph.zn.av.getD j []++y6 ph.zn.ah all j n)∧(∀i,i<n→(fl i).length=n*n∧Lt 2 (fl i)∧∀j,j<n→∀d,d<n→((fl i).getD (d*n+j) 0≠0↔j≠i∧∃q,q<m d∧((heard.getD i []).getD j []).getD ((nZ p d m (ph.zd.Rows.getD i []) (j+1)).length+q) 0≠pB p (((ph.zd.Rows.getD i []).getD d []).getD q []) (j+1)))∧∀i,i<n→Hn ph.zn.zw i→all.getD i []=fl i:=by
 have hN:ph.zs.N=(n:Int):=by rw[hz];exact s.N
 have hpw:ph.zn.zw.S.P=p:=by rw[←hz];exact hp
 have hsp:fQ p:=by rw[←hpw];exact s.sup
 have hlt:=hsp.lt
 have hnn:n*n≤7*7:=Nat.mul_le_mul hn hn
 have hmx:max 0 ph.zs.N.toNat=n:=by rw[hN];simp
 have hfl:∀i,i<n→∃F,dN ph ((i:Nat):Int) (heard.getD i [])=some F∧F.length=n*n∧Lt 2 F∧((∀j,j<n→j≠i→(heard.getD i []).getD j []=nZ p n m (ph.zd.Rows.getD i []) (j+1))→∀k,F.getD k 0=0)∧∀j,j<n→∀d,d<n→(F.getD (d*n+j) 0≠0↔j≠i∧∃q,q<m d∧((heard.getD i []).getD j []).getD ((nZ p d m (ph.zd.Rows.getD i []) (j+1)).length+q) 0≠pB p (((ph.zd.Rows.getD i []).getD d []).getD q []) (j+1)) :=
  λi hi=>F1 hsp hn ht hN hp hq hm r hi (hh i hi)
 generalize hfd:(λi:Nat=>(dN ph ((i:Nat):Int) (heard.getD i [])).getD [])=fl
 have hfl2:∀i,i<n→dN ph ((i:Nat):Int) (heard.getD i [])=some (fl i)∧(fl i).length=n*n∧Lt 2 (fl i)∧((∀j,j<n→j≠i→(heard.getD i []).getD j []=nZ p n m (ph.zd.Rows.getD i []) (j+1))→∀k,(fl i).getD k 0=0)∧∀j,j<n→∀d,d<n→((fl i).getD (d*n+j) 0≠0↔j≠i∧∃q,q<m d∧((heard.getD i []).getD j []).getD ((nZ p d m (ph.zd.Rows.getD i []) (j+1)).length+q) 0≠pB p (((ph.zd.Rows.getD i []).getD d []).getD q []) (j+1)):=λi hi=>by
  obtain⟨F,e,h⟩:=hfl i hi
  have:fl i=F:=by rw[←hfd];show(dN ph ((i:Nat):Int) (heard.getD i [])).getD []=F;rw[e];rfl
  rw[this];exact⟨e,h⟩
 have e1:cD ph heard (List.replicate n [])=some ((List.range n).map fl):=by
  unfold cD
  rw[hmx,bJ (by omega),bS,Nat.sub_zero,yC fl (λi l hi hl' _=>by
   unfold eE jy
   rw[aS [] (by omega) (by omega),bS,Int.toNat_natCast,(hfl2 i hi).1,bS,aS [] (by omega) (by omega),bS,bS,bS]),bS]
 have hbl:Bl ph.zn.zw.S.P n 49 ((List.range n).map fl):=⟨by simp,λi hi=>by
  rw[bR hi,hpw]
  obtain⟨_,f1,f2,_,_⟩:=hfl2 i hi
  exact⟨Ii f2 (by omega),by omega⟩⟩
 obtain⟨all,views,e2,b1,b2,b3,b5,b6⟩:=Dh s hbl (by omega) hv hB hr
 refine⟨all,views,?_,b3,λhd hy=>?_,fl,b5,b6,λi hi=>⟨(hfl2 i hi).2.1,(hfl2 i hi).2.2.1,(hfl2 i hi).2.2.2.2⟩,λi hi hh=>by rw[b2 i hi hh,bR hi]⟩
 ·have e3:cE (⟨⟨ph.zn.zw,ph.zn.ah+1,views,ph.zn.ak⟩,ph.zs,ph.zq,ph.zd⟩:ao) all=some ⟨ph.zd.S,ph.zd.Rows,(List.range n).map λi=>got (all.getD i []) n n⟩:=by
   unfold cE
   simp only
   rw[hmx,bJ (by omega),bS,Nat.sub_zero]
   obtain⟨⟨S,R,F⟩,e,a1,a2,a3,a4,a5⟩:=bm (body:=λk1 (st:(List (List (List (List Nat))))×(List (List (List (List Nat))))×(List (List (List Nat))))=>bM (⟨⟨ph.zn.zw,ph.zn.ah+1,views,ph.zn.ak⟩,ph.zs,ph.zq,ph.zd⟩:ao) all k1 st.1 st.2.1 st.2.2) (rem:=n) (k:=0) (s:=(ph.zd.S,ph.zd.Rows,ph.zd.aO))
    (λk st=>st.1=ph.zd.S∧st.2.1=ph.zd.Rows∧st.2.2.length=n∧(∀j,j<k→st.2.2.getD j []=got (all.getD j []) n n)∧∀j,k≤j→j<n→st.2.2.getD j []=[])
    ⟨rfl,rfl,by show ph.zd.aO.length=n;rw[hF];simp,λj hj=>by omega,λj _ hj=>by show ph.zd.aO.getD j []=[];rw[hF,List.getD_eq_getElem?_getD,List.getElem?_replicate,if_pos hj];rfl⟩ (λk st _ hk ⟨a1,a2,a3,a4,a5⟩=>by
     obtain⟨S,R,F⟩:=st
     simp only at a1 a2 a3 a4 a5
     subst a1;subst a2
     have hkn:k<n:=by omega
     have:=z6 (ph:=⟨⟨ph.zn.zw,ph.zn.ah+1,views,ph.zn.ak⟩,ph.zs,ph.zq,⟨ph.zd.S,ph.zd.Rows,F⟩⟩) hN hn b1.len hkn a3 (a5 k (Nat.le_refl k) hkn)
     unfold bM
     simp only
     rw[this,bS]
     refine⟨_,rfl,rfl,rfl,by show(F.set _ _).length=n;rw[List.length_set];exact a3,λj hj=>?_,λj hj hjn=>?_⟩
     ·show(F.set k _).getD j []=_
      rw[aN (by omega)]
      by_cases g:k=j
      ·rw[if_pos g,g]
      ·rw[if_neg g];exact a4 j (by omega)
     ·show(F.set k _).getD j []=_
      rw[aN (by omega),if_neg (by omega)];exact a5 j (by omega) hjn)
   rw[Nat.zero_add] at a4
   simp only at a1 a2 a3 a4 a5
   subst a1;subst a2
   rw[e,bS]
   have:F=(List.range n).map λi=>got (all.getD i []) n n:=by
    refine List.ext_getElem? λi=>?_
    by_cases g:i<n
    ·rw[ix [] (by omega),a4 i g,List.getElem?_map,List.getElem?_range g];rfl
    ·rw[List.getElem?_eq_none (by omega),List.getElem?_eq_none (by simp;omega)]
   rw[this]
  unfold ip
  rw[hN,ci (by omega) (by omega) (by omega) (by omega),bS,Int.toNat_natCast,e1,bS,e2,bS]
  simp only
  rw[e3,bS]
 ·have hz0:∀i,i<n→∀k,(((List.range n).map fl).getD i []).getD k 0=0:=λi hi k=>by
   rw[bR hi];exact(hfl2 i hi).2.2.2.1 (λj hj hji=>hy i hi j hj hji) k
  exact λi hi k=>by rw[b2 i hi (.inr hd)];exact hz0 i hi k
end
theorem xZ{p n t:Nat}{q:List (List (List Nat))}{tapes:List (List Nat)}(hp:0<p)(ht:t=1∨t=2)(Q:Qs p n t q tapes){d k:Nat}(hd:d<n)(hk:k<(q.getD d []).length) :
  jN ((q.getD d []).getD k []) (A4 (tapes.getD d []) t k)=some ((Sm q tapes t d).getD k [],0)∧qR p (t+1) (t+1) ((Sm q tapes t d).getD k [])∧∀i,i<t+1→∀j,j<t+1→(((Sm q tapes t d).getD k []).getD i []).getD j 0=(((Sm q tapes t d).getD k []).getD j []).getD i 0:=by
 obtain⟨w1,w2⟩:=Q.w d hd k hk
 rw[zS hk]
 obtain⟨_,a,b,c⟩:=Li ht w1 (AG (Q.many d hd).2 hk) w2 (Hy (Q.ts d hd).2)
 exact⟨a,b,c⟩
theorem sI{t:Nat}{q:List (List (List Nat))}{tapes:List (List Nat)}{d:Nat}:(Sm q tapes t d).length=(q.getD d []).length:=by unfold Sm;simp
/-- the flags of all parties stand -/
structure Fl(n:Nat)(F:List (List (List Nat))):Prop where
 len:F.length=n
 row:∀i,i<n→(F.getD i []).length=n
 w:∀i,i<n→∀d,d<n→((F.getD i []).getD d []).length=n
/-- what has been said in the first half -/
structure QE(w:ae)(n t:Nat)(round:Int)(m:Nat→Nat)(S R:List (List (List (List Nat))))(F:List (List (List Nat)))(v0 views:List (List am))(A0 A1 o0:List (List (List Nat)))(h2:List (List Nat))(fl:Nat→List Nat):Prop where
 q0:Sq w.S.P n 30 o0
 eo0:∀i,i<n→∀j,j<n→(o0.getD i []).getD j []=rr w.S.P (S.getD i []) (j+1)
 a0:bP w round o0=some A0
 r:∀i,i<n→R.getD i []=(List.range n).map λd=>got ((A0.getD d []).getD i []) (t+1) (m d)
 a1:bP w (round+1) ((List.range n).map λi=>(List.range n).map λj=>nZ w.S.P n m (R.getD i []) (j+1))=some A1
 efl:∀i,i<n→(fl i).length=n*n∧Lt 2 (fl i)∧∀j,j<n→∀d,d<n→((fl i).getD (d*n+j) 0≠0↔j≠i∧∃q,q<m d∧((A1.getD j []).getD i []).getD ((nZ w.S.P d m (R.getD i []) (j+1)).length+q) 0≠pB w.S.P (((R.getD i []).getD d []).getD q []) (j+1))
 a2:bk w (round+1+1) ((List.range n).map fl)=some h2
 eh2:∀i,i<n→Hn w i→h2.getD i []=fl i
 f:F=(List.range n).map λi=>got (h2.getD i []) n n
 v:∀j,j<n→views.getD j []=v0.getD j []++Bu round A0 j n++Bu (round+1) A1 j n++y6 (round+1+1) h2 j n
/-- the first half: what the dealers chose, what the parties hold -/
theorem FS{net:ai}[NeZero net.zw.S.P]{n t B:Nat}(s:Sc net.zw n t)(ht:t=1∨t=2)(hn:n≤7){q:List (List (List Nat))}{tp:Nat→List Nat}{ps:Nat→Nat}(Q:Qs net.zw.S.P n t q (rem n tp ps))(hts:Ci n net.ak tp ps)(hv:VB n B net.av)(hB:B≤400)(hr:0≤net.ah∧net.ah≤900) :
  ∃S R F views T,kp net q=some (⟨S,R,F⟩,net.ah+1+1+1,views,T)∧Ci n T tp (λi=>ps i+(q.getD i []).length*(t*(t+1) / 2))∧Ss net.zw.S.P n t S∧(∀d,d<n→S.getD d []=Sm q (rem n tp ps) t d)∧Rr net.zw.S.P n t (λd=>(q.getD d []).length) R ∧
   (∀d,d<n→Hn net.zw d→∀i,i<n→∀k,k<(q.getD d []).length→((R.getD i []).getD d []).getD k []=Rw net.zw.S.P ((Sm q (rem n tp ps) t d).getD k []) (i+1))∧Fl n F∧VB n (B+3*n) views ∧
   (net.zw.aa=[]→∀i,i<n→∀d,d<n→∀j,((F.getD i []).getD d []).getD j 0=0) ∧
   (∀i,i<n→Hn net.zw i→∀j,j<n→Hn net.zw j→∀d,d<n→∀k,k<(q.getD d []).length→pB net.zw.S.P (((R.getD j []).getD d []).getD k []) (i+1)≠pB net.zw.S.P (((R.getD i []).getD d []).getD k []) (j+1)→((F.getD i []).getD d []).getD j 0≠0) ∧
   ∃A0 A1 o0 h2 fl,QE net.zw n t net.ah (λd=>(q.getD d []).length) S R F net.av views A0 A1 o0 h2 fl:=by
 have hp:=s.sup
 have hlt:=hp.lt
 have ht2:t≤2:=by omega
 obtain⟨T,S,e1,hT,c2,c3⟩:=Ek (p:=net.zw.S.P) (ph:=⟨net,net.zw.S,q,⟨List.replicate n [],List.replicate n [],List.replicate n []⟩⟩) ht s.n13 s.N s.T Q hts rfl
 simp only at e1 c3
 have hSs:Ss net.zw.S.P n t S:=⟨c2,λd hd=>by rw[c3 d hd,sI];exact(Q.many d hd).1,λd hd k hk=>by
  rw[c3 d hd] at hk ⊢
  rw[sI] at hk
  exact(xZ (by omega) ht Q hd hk).2.1⟩
 obtain⟨all,v1,R,e2,a1,a2,a3,a4,a5,a6,ML,p1,p2,p3⟩:=yV (n:=n) (t:=t) (ph:=⟨⟨net.zw,net.ah,net.av,T⟩,net.zw.S,q,⟨S,List.replicate n [],List.replicate n []⟩⟩) s ht2 rfl hSs Q.len (λd hd=>by
  show(q.getD d []).length=(S.getD d []).length
  rw[c3 d hd,sI]) rfl hv.1 (λj hj=>Nat.le_trans (hv.2 j hj) (by omega)) (by show 0≤net.ah∧net.ah≤1000;omega)
 simp only at e2 a2 a4 a6 p1 p2 p3
 have hRr:Rr net.zw.S.P n t (λd=>(q.getD d []).length) R:=by
  refine⟨a5,λi hi=>by rw[a6 i hi];simp,λi hi d hd=>by rw[a6 i hi,bR hd,pj,c3 d hd,sI],λd hd=>(Q.many d hd).1,λi hi d hd k hk=>?_⟩
  rw[a6 i hi,bR hd,rR (by rw[c3 d hd,sI];exact hk)]
  exact⟨by simp,wi λc _=>Lt.get hp.pos (a1.w d hd i hi).1 _⟩
 have hRw:∀d,d<n→Hn net.zw d→∀i,i<n→∀k,k<(q.getD d []).length→((R.getD i []).getD d []).getD k []=Rw net.zw.S.P ((Sm q (rem n tp ps) t d).getD k []) (i+1):=λd hd hh i hi k hk=>by
  have hk':k<(S.getD d []).length:=by rw[c3 d hd,sI];exact hk
  rw[a6 i hi,bR hd,a2 d hd hh i hi,BC hp hSs ht2 hd (by omega) hk',c3 d hd]
 have hv1:=D8 a3 a4 hv
 obtain⟨all2,heard,v2,e3,b1,b2,b3,b4,b5,b6,b7⟩:=Cr (p:=net.zw.S.P) (n:=n) (t:=t) (m:=λd=>(q.getD d []).length) (ph:=⟨⟨net.zw,net.ah+1,v1,T⟩,net.zw.S,q,⟨S,R,List.replicate n []⟩⟩) rfl s ht2 rfl hRr hv1 (by omega) (by show 0≤net.ah+1∧net.ah+1≤1000;omega)
 simp only at e3 b3 b5 b6
 have hv2:=D8 b4 b5 hv1
 obtain⟨all3,v3,e4,d1,d2,fl,d4,d5,d6,d7⟩:=Bh (p:=net.zw.S.P) (n:=n) (t:=t) (m:=λd=>(q.getD d []).length) (ph:=⟨⟨net.zw,net.ah+1+1,v2,T⟩,net.zw.S,q,⟨S,R,List.replicate n []⟩⟩) rfl s hn ht2 rfl Q.len (λd hd=>rfl) hRr rfl b1 b2 hv2 (by omega) (by show 0≤net.ah+1+1∧net.ah+1+1≤1000;omega)
 simp only at e4 d2 d4 d5 d6 d7
 refine⟨S,R,(List.range n).map λi=>got (all3.getD i []) n n,v3,T,?_,hT,hSs,c3,hRr,hRw,⟨by simp,λi hi=>by rw[bR hi,pj],λi hi d hd=>by rw[bR hi,rR hd];simp⟩,⟨d1.1,λj hj=>Nat.le_trans (d1.2 j hj) (by omega)⟩,λhd=>?_,λi hi hhi j hj hhj d hd k hk hne=>?_,all,all2,ML,all3,fl,?_⟩
 ·unfold kp bp
  rw[bS,s.N,ci (by omega) (by omega) (by omega) (by omega),bS,ci (by omega) (by omega) (by omega) (by omega),bS,Int.toNat_natCast,e1,bS]
  simp only
  rw[e2,bS]
  simp only
  rw[e3,bS]
  simp only
  rw[e4,bS]
 ·have z1:=d2 hd (λi hi j hj hji=>by
   rw[b3 i hi j hj (.inr hd)]
   unfold nZ
   congr 1
   refine List.map_congr_left λd hdd=>?_
   have hdn:d<n:=by simpa using hdd
   refine List.map_congr_left λk hkk=>?_
   have hk:k<(q.getD d []).length:=by simpa using hkk
   obtain⟨_,mm,ms⟩:=xZ (p:=net.zw.S.P) (by omega) ht Q hdn hk
   rw[hRw d hdn (.inr hd) j hj k hk,hRw d hdn (.inr hd) i hi k hk]
   exact xP hp mm ms (by omega) (by omega) (by omega))
  intro i hi d hdn j
  rw[bR hi,rR hdn]
  by_cases g:j<n
  ·rw[bR g];exact z1 i hi _
  ·exact lA (by simp;omega)
 ·have hji:j≠i:=λe=>by subst e;exact hne rfl
  rw[bR hi,Gp hd hj]
  rw[d7 i hi hhi]
  refine((d6 i hi).2.2 j hj d hd).2 ⟨hji,k,hk,?_⟩
  rw[b3 i hi j hj hhj,KT (A:=R.getD i []) (B:=R.getD j []) (x:=j+1) (y:=i+1),xU hd hk]
  exact hne
 ·refine⟨p1,p2,p3,λi hi=>by rw[a6 i hi];exact List.map_congr_left λd hd=>by rw[c3 d (by simpa using hd),sI],b6,λi hi=>⟨(d6 i hi).1,(d6 i hi).2.1,λj hj d hd=>by rw[←b7 i hi j hj];exact(d6 i hi).2.2 j hj d hd⟩,d4,d7,rfl,λj hj=>?_⟩
  rw[d5 j hj,b5 j hj,a4 j hj]
end Pu

/- Plain laws of chapter 19: the disputed pairs, the dealers' answers. -/
set_option linter.unusedVariables false
namespace Pu
open Gw Gl Sp
theorem CY{α:Type}{body:Nat→List α→Option (List α)}(c:Nat→Bool)(x:Nat→α){l:List α}:∀{n:Nat},(∀j l',j<n→l'.length≤l.length+j→body j l'=some (if c j then l'++[x j] else l'))→cZ body n 0 l=some (l++((List.range n).filter c).map x):=λ{n} h=>by
 obtain⟨r,e,h2⟩:=bm (body:=body) (λk r=>r=l++((List.range k).filter c).map x) (rem:=n) (k:=0) (s:=l) (by simp) (λj r _ hj hr=>by
  have hl:r.length≤l.length+j:=by
   rw[hr,List.length_append,List.length_map]
   have:=List.length_filter_le c (List.range j)
   rw[List.length_range] at this
   omega
  refine⟨_,h j r (by omega) hl,?_⟩
  rw[hr,List.range_succ,List.filter_append,List.map_append]
  cases hc:c j
  ·simp[hc]
  ·simp[hc])
 rw[e,h2,Nat.zero_add]
theorem rP{α:Type}{v:Nat→List α}{w:Nat}:∀{n:Nat},(∀j,j<n→(v j).length≤w)→((List.range n).map v).flatten.length≤n*w
 | 0,_=>by simp
 | n+1,h=>by
  rw[List.range_succ,List.map_append,List.flatten_append,List.length_append,Nat.add_mul]
  have:=rP (v:=v) (w:=w) (n:=n) (λj hj=>h j (by omega))
  have:=h n (by omega)
  have e:(List.map v [n]).flatten=v n:=by simp
  rw[e];omega
/-- the disputed pairs of dealer d among the parties before k -/
def pS(F:List (List (List Nat)))(n d k:Nat):List cg:=((List.range k).map λi=>((List.range n).filter λj=>decide ((((F.getD i []).getD d []).getD j 0)≠0)).map λj=>(⟨((i:Nat):Int),((j:Nat):Int)⟩:cg)).flatten
theorem xJ{F:List (List (List Nat))}{n d k:Nat}:(pS F n d k).length≤k*n:=rP λi _=>by
 rw[List.length_map]
 have:=List.length_filter_le (λj=>decide ((((F.getD i []).getD d []).getD j 0)≠0)) (List.range n)
 rw[List.length_range] at this
 exact this
theorem z8{F:List (List (List Nat))}{n d k:Nat}{x:cg}(h:x∈pS F n d k):∃i j,i<k∧j<n∧((F.getD i []).getD d []).getD j 0≠0∧x=⟨((i:Nat):Int),((j:Nat):Int)⟩:=by
 unfold pS at h
 obtain⟨l,hl,hx⟩:=List.mem_flatten.1 h
 obtain⟨i,hi,rfl⟩:=List.mem_map.1 hl
 obtain⟨j,hj,rfl⟩:=List.mem_map.1 hx
 obtain⟨h1,h2⟩:=List.mem_filter.1 hj
 exact⟨i,j,by simpa using hi,by simpa using h1,of_decide_eq_true h2,rfl⟩
theorem getD_in{α:Type}{l:List α}{q:Nat}{d:α}(h:q<l.length):l.getD q d∈l:=by
 rw[List.getD_eq_getElem?_getD,List.getElem?_eq_getElem h];exact List.getElem_mem h
theorem sZ{c:ax}{n d:Nat}(hR:c.zd.Rows.length=n)(f:Fl n c.zd.aO)(hn:n≤7)(hd:d<n):gn c ((d:Nat):Int)=some (pS c.zd.aO n d n):=by
 have hmx:max 0 ((n:Nat):Int).toNat=n:=by simp
 have hnn:n*n≤7*7:=Nat.mul_le_mul hn hn
 unfold gn bu
 rw[hR,bS,hmx,bJ (by omega),bS,Nat.sub_zero]
 have e:cZ (λk1 (st:(List cg))=>kE c ((d:Nat):Int) k1 st) n 0 ([]:List cg)=some (pS c.zd.aO n d n):=tE (λi=>((List.range n).filter λj=>decide ((((c.zd.aO.getD i []).getD d []).getD j 0)≠0)).map λj=>(⟨((i:Nat):Int),((j:Nat):Int)⟩:cg)) (λi l hi hl=>by
  have hll:l.length≤i*n:=by rw[hl];exact xJ (F:=c.zd.aO) (d:=d)
  have hin:i*n≤n*n:=Nat.mul_le_mul_right _ (by omega)
  have hw:=f.w i hi d hd
  unfold kE
  rw[ix [] (by rw[f.len];exact hi),bS,aS [] (by omega) (by rw[f.row i hi];omega),bS,Int.toNat_natCast,hw,Nat.sub_zero,CY (λj=>decide ((((c.zd.aO.getD i []).getD d []).getD j 0)≠0)) (λj=>(⟨((i:Nat):Int),((j:Nat):Int)⟩:cg)) (λj l' hj hl'=>by
   unfold nH
   rw[ix 0 (by omega),bS]
   by_cases g:((c.zd.aO.getD i []).getD d []).getD j 0=0
   ·rw[qF (by omega),cF,if_neg (λh=>(of_decide_eq_true h) g)]
   ·rw[qT (by omega),cT,aM (by simp only[List.length_cons,List.length_nil];omega) (by simp only[List.length_cons,List.length_nil];omega),bS,if_pos (decide_eq_true g)]),bS])
 rw[e,bS]
theorem y4{i:Nat}(h:i≤1000):sj ((i:Nat):Int)=some (i+1):=by
 unfold sj
 have hu:sE (((i:Nat):Int)+1)=i+1:=by unfold sE;omega
 rw[bi (by omega) (by omega),bS,bS,hu]
theorem B9{l:List Nat}{m:Nat}(hl:l.length≤1000)(hm:m≤1000):jS ⟨l⟩ ((m:Nat):Int)=some ((List.range m).map λc=>l.getD c 0,l.drop m):=by
 obtain⟨r,er,r1,r2⟩:=nS (l:=l) (m:=m) hm
 have hr:r=(List.range m).map λc=>l.getD c 0:=by
  refine List.ext_getElem? λi=>?_
  by_cases g:i<m
  ·rw[ix 0 (by omega),r2 i g,List.getElem?_map,List.getElem?_range g];rfl
  ·rw[List.getElem?_eq_none (by omega),List.getElem?_eq_none (by simp;omega)]
 have hmin:min ((m:Nat):Int) ((l.length:Nat):Int)=((min m l.length:Nat):Int):=by omega
 unfold jS
 simp only
 rw[er,bS,bS,hmin,eG (by omega) (by omega) (by omega),bS,hr]
 simp only[Int.toNat_natCast]
 rw[List.take_of_length_le (by rw[List.length_drop];omega)]
 by_cases g:m≤l.length
 ·rw[Nat.min_eq_left g]
 ·rw[Nat.min_eq_right (by omega),List.drop_eq_nil_of_le (Nat.le_refl _),List.drop_eq_nil_of_le (by omega)]
theorem BD{l:List Nat}{w q:Nat}:got l w q++[(List.range w).map λc=>(l.drop (q*w)).getD c 0]=got l w (q+1):=by
 unfold got
 rw[List.range_succ,List.map_append]
 congr 1
 simp only[List.map_cons,List.map_nil]
 congr 1
 refine List.map_congr_left λk _=>?_
 rw[List.getD_eq_getElem?_getD,List.getElem?_drop,←List.getD_eq_getElem?_getD]
/-- the value at a pair -/
def NA(p:Nat)(M:List (List Nat))(x:cg):Nat:=pB p (Rw p M (x.e0.toNat+1)) (x.e1.toNat+1)
/-- what a dealer answers -/
def yF(p:Nat)(S:List (List (List Nat)))(l:List cg):List Nat:=((List.range l.length).map λq=>(List.range S.length).map λk=>NA p (S.getD k []) (l.getD q ⟨0,0⟩)).flatten
/-- the court has a sound state -/
structure Cs(p n t:Nat)(c:ax):Prop where
 P:c.zp=p
 pw:c.zn.zw.S.P=p
 sc:Sc c.zn.zw n t
 n7:n≤7
 t2:t≤2
 S:Ss p n t c.zd.S
 R:Rr p n t (λd=>(c.zd.S.getD d []).length) c.zd.Rows
 F:Fl n c.zd.aO
section
variable {p:Nat}[NeZero p]{n t:Nat}
theorem FF(hp:fQ p){mm:Nat}{M:List (List Nat)}{x y:Nat}(hM:qR p mm mm M)(hm:mm≤10)(hx:x<p)(hy:y<p):mX p M x y=some (pB p (Rw p M x) y)∧pB p (Rw p M x) y<p:=by
 obtain⟨e,_,hl,ht,_⟩:=pE hp hM hm hx
 obtain⟨e2,h2,_⟩:=jq hp ht hy (by omega)
 unfold mX
 rw[e,bS,e2,bS]
 exact⟨rfl,h2⟩
theorem Cj{c:ax}(cs:Cs p n t c){B:Nat}(hv:VB n B c.zn.av)(hB:B≤500)(hr:0≤c.zn.ah∧c.zn.ah≤1000) :
  ∃(heard:List (List Nat)) (views:List (List am)),kN c=some ((List.range n).map λd=>got (heard.getD d []) (c.zd.S.getD d []).length (pS c.zd.aO n d n).length,c.zn.ah+1,views)∧Bl p n 490 heard ∧
   (∀d,d<n→Hn c.zn.zw d→heard.getD d []=yF p (c.zd.S.getD d []) (pS c.zd.aO n d n))∧VB n (B+n) views ∧
   bk c.zn.zw c.zn.ah ((List.range n).map λd=>yF p (c.zd.S.getD d []) (pS c.zd.aO n d n))=some heard∧∀j,j<n→views.getD j []=c.zn.av.getD j []++y6 c.zn.ah heard j n:=by
 have hp:fQ p:=by rw[←cs.pw];exact cs.sc.sup
 have hlt:=hp.lt
 have hn:=cs.n7
 have ht:=cs.t2
 have hRl:c.zd.Rows.length=n:=cs.R.len
 have hmx:max 0 ((n:Nat):Int).toNat=n:=by simp
 have hnn:n*n≤7*7:=Nat.mul_le_mul hn hn
 have hin:∀d q,q<(pS c.zd.aO n d n).length→∃i j,i<n∧j<n∧(pS c.zd.aO n d n).getD q ⟨0,0⟩=⟨((i:Nat):Int),((j:Nat):Int)⟩:=λd q hq=>by
  obtain⟨i,j,h1,h2,_,h3⟩:=z8 (getD_in (d:=(⟨0,0⟩:cg)) hq)
  exact⟨i,j,h1,h2,h3⟩
 have hsl:∀d,d<n→Lt p (yF p (c.zd.S.getD d []) (pS c.zd.aO n d n))∧(yF p (c.zd.S.getD d []) (pS c.zd.aO n d n)).length≤490:=λd hd=>by
  have hm:=cs.S.many d hd
  have hdl:=xJ (F:=c.zd.aO) (n:=n) (d:=d) (k:=n)
  refine⟨vK λq hq=>wi λk hk=>?_,?_⟩
  ·obtain⟨i,j,hi,hj,e⟩:=hin d q hq
   rw[e]
   exact(FF hp (cs.S.mat d hd k hk) (by omega) (by show i+1<p;omega) (by show j+1<p;omega)).2
  ·have:=rP (n:=(pS c.zd.aO n d n).length) (w:=10) (v:=λq=>(List.range (c.zd.S.getD d []).length).map λk=>NA p ((c.zd.S.getD d []).getD k []) ((pS c.zd.aO n d n).getD q ⟨0,0⟩)) (λq _=>by simp;exact hm)
   exact Nat.le_trans this (by omega)
 have e1:cZ (λk1 (st:(List (List Nat)))=>lk c k1 st) n 0 ([]:List (List Nat))=some ((List.range n).map λd=>yF p (c.zd.S.getD d []) (pS c.zd.aO n d n)):=fA _ (λd l hd hl=>by
  have hm:=cs.S.many d hd
  have hdl:=xJ (F:=c.zd.aO) (n:=n) (d:=d) (k:=n)
  unfold lk
  rw[sZ hRl cs.F hn hd,bS,Nat.sub_zero]
  have e2:cZ (λk2 (st:(List Nat))=>lm c d (pS c.zd.aO n d n) k2 st) (pS c.zd.aO n d n).length 0 ([]:List Nat)=some (yF p (c.zd.S.getD d []) (pS c.zd.aO n d n)):=tE (λq=>(List.range (c.zd.S.getD d []).length).map λk=>NA p ((c.zd.S.getD d []).getD k []) ((pS c.zd.aO n d n).getD q ⟨0,0⟩)) (λq l' hq hl'=>by
   have hll:l'.length≤q*10:=by rw[hl'];exact rP λ_ _=>by simp;exact hm
   obtain⟨i,j,hi,hj,e⟩:=hin d q hq
   unfold lm
   rw[ix ⟨0,0⟩ hq,bS,ix [] (by rw[cs.S.len];exact hd),bS,Nat.sub_zero,B3 (λk=>NA p ((c.zd.S.getD d []).getD k []) ((pS c.zd.aO n d n).getD q ⟨0,0⟩)) (λk l2 hk hl2=>by
    have hl3:l2.length≤600:=by rw[hl2,List.length_append,List.length_map,List.length_range];omega
    unfold oz
    rw[ix [] hk,bS,e]
    simp only
    rw[y4 (by omega),bS,y4 (by omega),bS,cs.P,(FF hp (cs.S.mat d hd k hk) (by omega) (by omega) (by omega)).1,bS,aM (by simp only[List.length_cons,List.length_nil];omega) (by simp only[List.length_cons,List.length_nil];omega),bS]
    rfl),bS])
  rw[e2,bS,aM (by simp only[List.length_cons,List.length_nil];omega) (by simp only[List.length_cons,List.length_nil];omega),bS])
 have hbl:Bl c.zn.zw.S.P n 490 ((List.range n).map λd=>yF p (c.zd.S.getD d []) (pS c.zd.aO n d n)):=⟨by simp,λd hd=>by rw[bR hd,cs.pw];exact hsl d hd⟩
 obtain⟨heard,views,e3,b1,b2,b3,b5,b6⟩:=Dh cs.sc hbl (by omega) hv hB hr
 rw[cs.pw] at b1
 refine⟨heard,views,?_,b1,λd hd hh=>by rw[b2 d hd hh,bR hd],b3,b5,b6⟩
 unfold kN bu
 rw[hRl,bS,hmx,bJ (by omega),bS,Nat.sub_zero,e1,bS,e3,bS]
 simp only
 rw[hRl,bS,hmx,bJ (by omega),bS,Nat.sub_zero,fA (λd=>got (heard.getD d []) (c.zd.S.getD d []).length (pS c.zd.aO n d n).length) (λd l hd hl=>by
  have hm:=cs.S.many d hd
  have hdl:=xJ (F:=c.zd.aO) (n:=n) (d:=d) (k:=n)
  have hhl:=(b1.w d hd).2
  unfold oB
  simp only
  rw[ix [] (by rw[b1.len];exact hd),bS,sZ (c:=⟨⟨c.zn.zw,c.zn.ah+1,views,c.zn.ak⟩,c.zp,c.zd,c.bg,c.ca,c.dA⟩) hRl cs.F hn hd,bS,Nat.sub_zero]
  obtain⟨⟨l1,l2⟩,e4,g1,g2⟩:=bm (body:=λk5 (st:(List Nat)×(List (List Nat)))=>gK c (heard,c.zn.ah+1,views) d k5 st.1 st.2) (rem:=(pS c.zd.aO n d n).length) (k:=0) (s:=(heard.getD d [],([]:List (List Nat))))
   (λq st=>st.1=(heard.getD d []).drop (q*(c.zd.S.getD d []).length)∧st.2=got (heard.getD d []) (c.zd.S.getD d []).length q) ⟨by simp,rfl⟩ (λq st _ hq ⟨g1,g2⟩=>by
    obtain⟨l1,l2⟩:=st
    simp only at g1 g2
    subst g1;subst g2
    unfold gK hJ
    simp only
    rw[aS [] (by omega) (by rw[cs.S.len];omega),bS,bS,Int.toNat_natCast,B9 (by rw[List.length_drop];omega) (by omega),bS]
    simp only
    rw[aM (by rw[pj];simp only[List.length_cons,List.length_nil];omega) (by rw[pj];simp only[List.length_cons,List.length_nil];omega),bS]
    refine⟨_,rfl,?_,?_⟩
    ·show((heard.getD d []).drop _).drop _=_
     rw[List.drop_drop,Nat.add_mul,Nat.one_mul]
    ·exact BD)
  rw[Nat.zero_add] at g2
  simp only at g2
  rw[e4,bS]
  simp only
  rw[g2,aM (by simp only[List.length_cons,List.length_nil];omega) (by simp only[List.length_cons,List.length_nil];omega),bS]),bS]
end
/-- an honest dealer's answers -/
theorem HB{p:Nat}{S:List (List (List Nat))}{l:List cg}{q k:Nat}(hq:q<l.length)(hk:k<S.length):((got (yF p S l) S.length l.length).getD q []).getD k 0=NA p (S.getD k []) (l.getD q ⟨0,0⟩):=by
 rw[Gp hq hk]
 unfold yF
 rw[flat_get (w:=S.length) (λj _=>by simp) hq hk,bR hk]
end Pu

/- Plain laws of chapter 19: accusations, votes. -/
set_option linter.unusedVariables false
namespace Pu
open Gw Gl Sp
theorem tD{body:Nat→Unit→Option (Out Unit Bool)}{n:Nat}(V:Nat→Prop)(h:∀ k,k < n→(body k ()=some (.fin true)∧V k) ∨ (body k ()=some (.go ())∧¬ V k)) :
    (qg body n 0 ()=some (.fin true)∧∃ k,k < n∧V k) ∨ (qg body n 0 ()=some (.go ())∧∀ k,k < n→¬ V k):=by
  obtain ⟨o,e,ho⟩:=im (body:=body) (fun k _=>∀ j,j < k→¬ V j) (fun b=>b=true∧∃ k,k < n∧V k) (rem:=n) (k:=0) (s:=()) (fun j hj=>by omega) (fun k s _ hk hI=>by
    have hkn:k < n:=by omega
    rcases h k hkn with ⟨e,hV⟩ | ⟨e,hV⟩
    · exact ⟨_,e,rfl,k,hkn,hV⟩
    · refine ⟨_,e,fun j hj=>?_⟩
      by_cases g:j=k
      · subst g;exact hV
      · exact hI j (by omega))
  cases o with
  | fin b => obtain ⟨h1, h2⟩ := ho
             subst h1
             exact .inl ⟨e,h2⟩
  | go u=>exact .inr ⟨e,fun k hk=>ho k (by omega)⟩
/-- the other members of a pair -/
def yQ(x:cg)(i:Nat):List Int:=(if x.e0=((i:Nat):Int) then[x.e1] else[])++(if x.e1=((i:Nat):Int) then[x.e0] else[])
theorem EP{x:cg}{i:Nat}:sk x ((i:Nat):Int)=some (yQ x i):=by
 unfold sk yQ
 by_cases g:x.e0=((i:Nat):Int)
 ·rw[eT g,cT,if_pos g,aM (by simp) (by simp),bS,bS]
  by_cases g2:x.e1=((i:Nat):Int)
  ·rw[eT g2,cT,if_pos g2,aM (by simp) (by simp),bS];rfl
  ·rw[eF g2,cF,if_neg g2];rfl
 ·rw[eF g,cF,if_neg g,bS]
  by_cases g2:x.e1=((i:Nat):Int)
  ·rw[eT g2,cT,if_pos g2,aM (by simp) (by simp),bS]
  ·rw[eF g2,cF,if_neg g2];rfl
theorem G4{x:cg}{i r:Nat}(h:r<(yQ x i).length):((yQ x i).getD r 0=x.e1∧x.e0=((i:Nat):Int))∨((yQ x i).getD r 0=x.e0∧x.e1=((i:Nat):Int)):=by
 have h2:=getD_in (d:=(0:Int)) h
 generalize (yQ x i).getD r 0=y at h2
 unfold yQ at h2
 rcases List.mem_append.1 h2 with h3 | h3
 ·by_cases g:x.e0=((i:Nat):Int)
  ·rw[if_pos g] at h3;exact .inl ⟨by simpa using h3,g⟩
  ·rw[if_neg g] at h3;simp at h3
 ·by_cases g:x.e1=((i:Nat):Int)
  ·rw[if_pos g] at h3;exact .inr ⟨by simpa using h3,g⟩
  ·rw[if_neg g] at h3;simp at h3
/-- an answer of dealer d contradicts the rows of party i -/
def Wr(p n:Nat)(z:aU)(i d:Nat)(ans:List (List Nat)):Prop:=∃q,q<(pS z.aO n d n).length∧∃r,r<(yQ ((pS z.aO n d n).getD q ⟨0,0⟩) i).length∧∃k,k<(z.S.getD d []).length ∧
 pB p (((z.Rows.getD i []).getD d []).getD k []) (((yQ ((pS z.aO n d n).getD q ⟨0,0⟩) i).getD r 0).toNat+1)≠(ans.getD q []).getD k 0
theorem G9{p n t:Nat}{c:ax}(cs:Cs p n t c){i d k:Nat}(hi:i<n)(hd:d<n)(hk:k<(c.zd.S.getD d []).length):mf c ((i:Nat):Int) ((d:Nat):Int) ((k:Nat):Int)=some (((c.zd.Rows.getD i []).getD d []).getD k []):=by
 unfold mf
 rw[aS [] (by omega) (by rw[cs.R.len];omega),bS,Int.toNat_natCast,aS [] (by omega) (by rw[cs.R.row i hi];omega),bS,Int.toNat_natCast,aS [] (by omega) (by rw[cs.R.many i hi d hd];omega),bS,Int.toNat_natCast]
section
variable {p:Nat}[NeZero p]{n t:Nat}
theorem C9{c:ax}(cs:Cs p n t c){i d:Nat}(hi:i<n)(hd:d<n){ans:List (List Nat)}(h1:ans.length=(pS c.zd.aO n d n).length)(h2:∀q,q<ans.length→(ans.getD q []).length=(c.zd.S.getD d []).length) :
  ∃b,kO c ((i:Nat):Int) ((d:Nat):Int) ans=some b∧(b=true↔Wr p n c.zd i d ans):=by
 have hp:fQ p:=by rw[←cs.pw];exact cs.sc.sup
 have hlt:=hp.lt
 have hn:=cs.n7
 have ht:=cs.t2
 unfold kO
 rw[sZ cs.R.len cs.F hn hd,bS,Nat.sub_zero]
 have key:=tD (body:=λk1 (st:Unit)=>ln c ((i:Nat):Int) ((d:Nat):Int) ans (pS c.zd.aO n d n) k1) (n:=(pS c.zd.aO n d n).length)
  (λq=>∃r,r<(yQ ((pS c.zd.aO n d n).getD q ⟨0,0⟩) i).length∧∃k,k<(c.zd.S.getD d []).length∧pB p (((c.zd.Rows.getD i []).getD d []).getD k []) (((yQ ((pS c.zd.aO n d n).getD q ⟨0,0⟩) i).getD r 0).toNat+1)≠(ans.getD q []).getD k 0) (λq hq=>by
   have hx:∃a b,a<n∧b<n∧(pS c.zd.aO n d n).getD q ⟨0,0⟩=⟨((a:Nat):Int),((b:Nat):Int)⟩:=by
    obtain⟨a,b,h1,h2,_,h3⟩:=z8 (getD_in (d:=(⟨0,0⟩:cg)) hq)
    exact⟨a,b,h1,h2,h3⟩
   unfold ln
   rw[ix ⟨0,0⟩ hq,bS,EP,bS,Nat.sub_zero]
   generalize (pS c.zd.aO n d n).getD q ⟨0,0⟩=x at hx
   obtain⟨a,b,ha,hb,hx⟩:=hx
   have key2:=tD (body:=λk2 (st:Unit)=>lp c ((i:Nat):Int) ((d:Nat):Int) ans q (yQ x i) k2) (n:=(yQ x i).length)
    (λr=>∃k,k<(c.zd.S.getD d []).length∧pB p (((c.zd.Rows.getD i []).getD d []).getD k []) (((yQ x i).getD r 0).toNat+1)≠(ans.getD q []).getD k 0) (λr hr=>by
     have hj:∃j,j<n∧(yQ x i).getD r 0=((j:Nat):Int):=by
      rcases G4 hr with ⟨e,_⟩ | ⟨e,_⟩
      ·exact⟨b,hb,by rw[e,hx]⟩
      ·exact⟨a,ha,by rw[e,hx]⟩
     unfold lp
     rw[ix 0 hr,bS,ix [] (by omega),bS,Nat.sub_zero,h2 q (by omega)]
     generalize (yQ x i).getD r 0=y at hj
     obtain⟨j,hjn,rfl⟩:=hj
     have key3:=tD (body:=λk3 (st:Unit)=>lq c ((i:Nat):Int) ((d:Nat):Int) ((j:Nat):Int) (ans.getD q []) k3) (n:=(c.zd.S.getD d []).length)
      (λk=>pB p (((c.zd.Rows.getD i []).getD d []).getD k []) (((j:Nat):Int).toNat+1)≠(ans.getD q []).getD k 0) (λk hk=>by
       obtain⟨w1,w2⟩:=cs.R.w i hi d hd k hk
       unfold lq
       rw[ix 0 (by rw[h2 q (by omega)];exact hk),bS,G9 cs hi hd hk,bS,y4 (by omega),bS,cs.P,(jq hp w2 (by omega) (by omega)).1,bS,Int.toNat_natCast]
       by_cases g:pB p (((c.zd.Rows.getD i []).getD d []).getD k []) (j+1)=(ans.getD q []).getD k 0
       ·rw[qF (by omega),cF];exact .inr ⟨rfl,λh=>h g⟩
       ·rw[qT (by omega),cT];exact .inl ⟨rfl,g⟩)
     rcases key3 with ⟨e,h⟩ | ⟨e,h⟩
     ·rw[e,bS,oF];exact .inl ⟨rfl,h⟩
     ·rw[e,bS,oG];exact .inr ⟨rfl,λ⟨k,hk,hV⟩=>h k hk hV⟩)
   rcases key2 with ⟨e,h⟩ | ⟨e,h⟩
   ·rw[e,bS,oF];exact .inl ⟨rfl,h⟩
   ·rw[e,bS,oG];exact .inr ⟨rfl,λ⟨r,hr,hV⟩=>h r hr hV⟩)
 rcases key with ⟨e,h⟩ | ⟨e,h⟩
 ·rw[e,bS,oF];exact⟨true,rfl,λ_=>h,λ_=>rfl⟩
 ·rw[e,bS,oG];exact⟨false,rfl,λh'=>(by cases h'),λ⟨q,hq,hV⟩=>absurd hV (h q hq)⟩
end
/-- a vote, whatever the parties say -/
def D9(c:ax)(says:Nat→Nat→Option Bool):Option ((List (List Bool))×Int×(List (List am))) :=
 bu c >>= λr1 =>
 nN (max 0 (r1).toNat) >>= λu1 =>
 cZ (λk1 (st:(List (List Nat)))=>cZ (λk2 (st:(List Nat))=>says k1 k2 >>= λr4=>bif r4 then cU 8 st ([1]:List Nat) >>= λl5=>some l5 else cU 8 st ([0]:List Nat) >>= λl6=>some l6) ((max 0 (r1).toNat)-0) 0 ([]:List Nat) >>= λl4=>cU 24 st ([l4]:List (List Nat)) >>= λl7=>some l7) ((max 0 (r1).toNat)-0) 0 ([]:List (List Nat)) >>= λl2 =>
 cu c.zn l2 >>= λr5 =>
 bu (⟨(⟨c.zn.zw,r5.2.1,r5.2.2,c.zn.ak⟩:ai),c.zp,c.zd,c.bg,c.ca,c.dA⟩:ax) >>= λr6 =>
 o9 24 r6 r6 ([]:List Bool) >>= λl8 =>
 cZ (λk3 (st:(List (List Bool)))=>fj r5 r6 k3 st) (l8.length-0) 0 l8 >>= λl10 =>
 some (l10,r5.2.1,r5.2.2)
theorem OI(c:ax)(x:List (List (List Nat))):fE c x=D9 c (λi d=>iL ((i:Nat):Int) ((d:Nat):Int) c x):=rfl
theorem OJ(c:ax):eI c=D9 c (λi d=>dM c ((i:Nat):Int) ((d:Nat):Int)):=rfl
/-- what has been voted is square -/
def Ac(n:Nat)(a:List (List Bool)):Prop:=a.length=n∧∀d,d<n→(a.getD d []).length=n
theorem Ea{c:ax}{n t:Nat}(s:Sc c.zn.zw n t)(hn:n≤7)(hR:c.zd.Rows.length=n){says:Nat→Nat→Option Bool}{b:Nat→Nat→Bool}(hs:∀i,i<n→∀d,d<n→says i d=some (b i d)){B:Nat}(hv:VB n B c.zn.av)(hB:B≤500)(hr:0≤c.zn.ah∧c.zn.ah≤1000) :
  ∃(acc:List (List Bool)) (views:List (List am)),D9 c says=some (acc,c.zn.ah+1,views)∧Ac n acc∧(∀i,i<n→Hn c.zn.zw i→∀d,d<n→(acc.getD d []).getD i false=b i d)∧VB n (B+n) views ∧
   ∃h,bk c.zn.zw c.zn.ah ((List.range n).map λi=>(List.range n).map λd=>if b i d then 1 else 0)=some h∧(∀d,d<n→∀i,i<n→(acc.getD d []).getD i false=((((h.getD i []).getD d 0:Nat):Int) != 0))∧∀j,j<n→views.getD j []=c.zn.av.getD j []++y6 c.zn.ah h j n:=by
 have hlt:=s.sup.lt
 have hmx:max 0 ((n:Nat):Int).toNat=n:=by simp
 have hbl:Bl c.zn.zw.S.P n 7 ((List.range n).map λi=>(List.range n).map λd=>if b i d then 1 else 0):=⟨by simp,λi hi=>by
  rw[bR hi]
  exact⟨wi λk _=>(by split <;> omega),by simp;exact hn⟩⟩
 obtain⟨heard,views,e3,b1,b2,b3,b5,b6⟩:=Dh s hbl (by omega) hv hB hr
 have hsay:∀i,i<n→∀d,d<n→((((List.range n).map λi=>(List.range n).map λd=>if b i d then 1 else 0).getD i []).getD d 0)=if b i d then 1 else 0:=λi hi d hd=>by rw[bR hi,bR hd]
 refine⟨(List.range n).map λd=>(List.range n).map λi=>((((heard.getD i []).getD d 0:Nat):Int) != 0),views,?_,⟨by simp,λd hd=>by rw[bR hd];simp⟩,λi hi hh d hd=>?_,b3,heard,b5,λd hd i hi=>by rw[bR hd,bR hi],b6⟩
 ·have e1:cZ (λk1 (st:(List (List Nat)))=>cZ (λk2 (st:(List Nat))=>says k1 k2 >>= λr4=>bif r4 then cU 8 st ([1]:List Nat) >>= λl5=>some l5 else cU 8 st ([0]:List Nat) >>= λl6=>some l6) n 0 ([]:List Nat) >>= λl4=>cU 24 st ([l4]:List (List Nat)) >>= λl7=>some l7) n 0 ([]:List (List Nat))=some ((List.range n).map λi=>(List.range n).map λd=>if b i d then 1 else 0):=fA _ (λi l hi hl=>by
   rw[fA (λd=>if b i d then 1 else 0) (λd l2 hd hl2=>by
    rw[hs i hi d hd,bS]
    cases b i d
    ·rw[cF,aM (by simp only[List.length_cons,List.length_nil];omega) (by simp only[List.length_cons,List.length_nil];omega),bS];rfl
    ·rw[cT,aM (by simp only[List.length_cons,List.length_nil];omega) (by simp only[List.length_cons,List.length_nil];omega),bS];rfl),bS,aM (by simp only[List.length_cons,List.length_nil];omega) (by simp only[List.length_cons,List.length_nil];omega),bS])
  unfold D9 bu
  rw[hR,bS,hmx,bJ (by omega),bS,Nat.sub_zero,e1,bS,e3,bS]
  simp only
  rw[hR,bS,ci (by omega) (by omega) (by omega) (by omega),bS,Int.toNat_natCast,List.length_replicate,Nat.sub_zero,yC (λd=>(List.range n).map λi=>((((heard.getD i []).getD d 0:Nat):Int) != 0)) (λd l hd hl h0=>by
   unfold fj
   rw[hmx,bJ (by omega),bS,Nat.sub_zero,yA (λi=>((((heard.getD i []).getD d 0:Nat):Int) != 0)) hd hl (λq l' hq hl' hw=>by
    rw[h0] at hw
    simp only[List.length_nil] at hw
    obtain⟨r,er,r1,r2⟩:=nS (l:=heard.getD q []) (m:=n) (by omega)
    unfold iu
    simp only
    rw[Nat.zero_add,ix [] (by omega),bS,ix [] (by rw[b1.len];exact hq),bS,er,bS,ix 0 (by omega),bS,r2 d hd,aM (by simp only[List.length_cons,List.length_nil];omega) (by simp only[List.length_cons,List.length_nil];omega),bS,bS]),bS,h0,List.nil_append]),bS]
 ·rw[bR hd,bR hi,b2 i hi hh,hsay i hi d hd]
  cases b i d <;> rfl
end Pu
