/- Plain laws of chapter 19: the public rows, objections. -/
import Derived.Test.YtpjenmchinpgaaaGreatDoorPj
set_option linter.unusedVariables false
namespace Pu
open Gw Gl Sp
theorem EZ{α:Type}{body:Nat→List α→Option (List α)}(v:Nat→List α){l:List α}:∀{n:Nat},(∀j l',j<n→l'=l++((List.range j).map v).flatten→body j l'=some (l'++v j))→cZ body n 0 l=some (l++((List.range n).map v).flatten):=λ{n} h=>by
 obtain⟨r,e,h2⟩:=bm (body:=body) (λk r=>r=l++((List.range k).map v).flatten) (rem:=n) (k:=0) (s:=l) (by simp) (λj r _ hj hr=>by
  refine⟨_,h j r (by omega) hr,?_⟩
  rw[hr,List.range_succ,List.map_append,List.flatten_append,List.append_assoc];simp)
 rw[e,h2,Nat.zero_add]
theorem yj{α:Type}{v:Nat→List α}:∀{n a:Nat},a<n→∃rest,((List.range n).map v).flatten=((List.range a).map v).flatten++(v a++rest)
 | 0,a,h=>by omega
 | n+1,a,h=>by
  by_cases g:a=n
  ·subst g;exact⟨[],by rw[List.range_succ,List.map_append,List.flatten_append];simp⟩
  ·obtain⟨rest,e⟩:=yj (v:=v) (n:=n) (a:=a) (by omega)
   exact⟨rest++v n,by rw[List.range_succ,List.map_append,List.flatten_append,e];simp⟩
theorem J2{l r:List Nat}{w m:Nat}(h:l.length=m*w):got (l++r) w m=got l w m:=by
 unfold got
 refine List.map_congr_left λk hk=>List.map_congr_left λc hc=>?_
 have hk:k<m:=by simpa using hk
 have hc:c<w:=by simpa using hc
 have:(k+1)*w≤m*w:=Nat.mul_le_mul_right _ hk
 rw[Nat.add_mul,Nat.one_mul] at this
 exact cA (by omega)
/-- the accusers of dealer d before a -/
def cnt(f:Nat→Bool)(a:Nat):Nat:=((List.range a).filter f).length
theorem m9{f:Nat→Bool}{a:Nat}:cnt f (a+1)=cnt f a+if f a then 1 else 0:=by
 unfold cnt
 rw[List.range_succ,List.filter_append,List.length_append]
 cases h:f a <;> simp[h]
theorem LI{f:Nat→Bool}{a:Nat}:cnt f a≤a:=by
 unfold cnt
 have:=List.length_filter_le f (List.range a)
 rw[List.length_range] at this;exact this
/-- who accuses dealer d -/
def ac(acc:List (List Bool))(d i:Nat):Bool:=(acc.getD d []).getD i false
/-- the rows that dealer d tells -/
def yG(p n:Nat)(S:List (List (List Nat)))(f:Nat→Bool):List Nat:=((List.range n).map λi=>if f i then rr p S (i+1) else[]).flatten
/-- what is heard of them -/
def C5(l:List Nat)(f:Nat→Bool)(t m a:Nat):List (List Nat):=if f a then got (l.drop (cnt f a*(m*(t+1)))) (t+1) m else[]
/-- the public rows stand -/
structure Td(p n t:Nat)(m:Nat→Nat)(acc:List (List Bool))(told:List (List (List (List Nat)))):Prop where
 len:told.length=n
 row:∀d,d<n→(told.getD d []).length=n
 no:∀d,d<n→∀a,a<n→ac acc d a=false→(told.getD d []).getD a []=[]
 many:∀d,d<n→∀a,a<n→ac acc d a=true→((told.getD d []).getD a []).length=m d
 w:∀d,d<n→∀a,a<n→ac acc d a=true→∀k,k<m d→(((told.getD d []).getD a []).getD k []).length=t+1∧Lt p (((told.getD d []).getD a []).getD k [])
theorem HK{p n t d:Nat}{c:ax}{r7:(List (List Nat))×Int×(List (List am))}{l9:List (List (List (List Nat)))}(cs:Cs p n t c)(hd:d<n){x11:List Bool}(hx:x11.length=n){l:List Nat}(hl:l.length≤1000) :
  ∃l' rows,cZ (λk5 (st:(List Nat)×(List (List (List Nat))))=>gU c r7 (((t+1:Nat):Int)) l9 d x11 k5 st.1 st.2) n 0 (l,List.replicate n [])=some (l',rows)∧rows=(List.range n).map (C5 l (λi=>x11.getD i false) t (c.zd.S.getD d []).length):=by
 have hn:=cs.n7
 have ht:=cs.t2
 have hm:=cs.S.many d hd
 generalize hf:(λi=>x11.getD i false)=f
 generalize hmm:(c.zd.S.getD d []).length=m at *
 obtain⟨⟨l',rows⟩,e,g1,g2,g3,g4⟩:=bm (body:=λk5 (st:(List Nat)×(List (List (List Nat))))=>gU c r7 (((t+1:Nat):Int)) l9 d x11 k5 st.1 st.2) (rem:=n) (k:=0) (s:=(l,List.replicate n []))
  (λk st=>st.1=l.drop (cnt f k*(m*(t+1)))∧st.2.length=n∧(∀a,a<k→st.2.getD a []=C5 l f t m a)∧∀a,k≤a→a<n→st.2.getD a []=[])
  ⟨by simp[cnt],by simp,λa ha=>by omega,λa _ ha=>by show(List.replicate n []).getD a []=[];rw[List.getD_eq_getElem?_getD,List.getElem?_replicate,if_pos ha];rfl⟩ (λk st _ hk ⟨g1,g2,g3,g4⟩=>by
   obtain⟨l0,rows⟩:=st
   simp only at g1 g2 g3 g4
   have hkn:k<n:=by omega
   have hl0:l0.length≤1000:=by rw[g1,List.length_drop];omega
   have hfk:x11.getD k false=f k:=by rw[←hf]
   unfold gU
   rw[ix false (by omega),bS,hfk]
   cases hb:f k
   ·rw[cF]
    refine⟨_,rfl,by show l0=_;rw[m9,hb,g1];rfl,g2,λa ha=>?_,λa ha han=>g4 a (by omega) han⟩
    by_cases ga:a=k
    ·subst ga
     show rows.getD a []=_
     rw[g4 a (Nat.le_refl a) hkn];unfold C5;rw[hb];rfl
    ·exact g3 a (by omega)
   ·unfold hJ
    simp only
    rw[cT,aS [] (by omega) (by rw[cs.S.len];omega),bS,bS]
    simp only[Int.toNat_natCast]
    rw[hmm]
    have hmx:max 0 m=m:=by simp
    rw[hmx,bJ (by omega),bS,Nat.sub_zero]
    obtain⟨⟨l2,r2⟩,e2,q1,q2⟩:=bm (body:=λk6 (st:(List Nat)×(List (List (List Nat))))=>jh (((t+1:Nat):Int)) k k6 st.1 st.2) (rem:=m) (k:=0) (s:=(l0,rows))
     (λq st=>st.1=l0.drop (q*(t+1))∧st.2=rows.set k (got l0 (t+1) q)) ⟨by simp,by
      show rows=rows.set k []
      have:=qO (l:=rows) (k:=k) (d:=[]) (by omega)
      rw[g4 k (Nat.le_refl k) hkn] at this
      exact this.symm⟩ (λq st _ hq ⟨q1,q2⟩=>by
      obtain⟨l2,r2⟩:=st
      simp only at q1 q2
      subst q1;subst q2
      unfold jh
      rw[ix [] (by rw[List.length_set];omega),bS,B9 (by rw[List.length_drop];omega) (by omega),bS,aN (by omega),if_pos rfl]
      simp only
      rw[aM (by rw[pj];simp only[List.length_cons,List.length_nil];omega) (by rw[pj];simp only[List.length_cons,List.length_nil];omega),bS,bS]
      refine⟨_,rfl,?_,?_⟩
      ·show(l0.drop _).drop _=_
       rw[List.drop_drop,Nat.add_mul,Nat.one_mul]
      ·show(rows.set k _).set k (got _ _ q++[_])=rows.set k (got _ _ (q+1))
       rw[List.set_set]
       rw[BD])
    rw[Nat.zero_add] at q1 q2
    simp only at q1 q2
    rw[e2,bS]
    refine⟨_,rfl,?_,?_,λa ha=>?_,λa ha han=>?_⟩
    ·show l2=_
     rw[q1,g1,List.drop_drop,m9,hb,if_pos rfl,Nat.add_mul,Nat.one_mul]
    ·show r2.length=n
     rw[q2,List.length_set];exact g2
    ·show r2.getD a []=_
     rw[q2,aN (by omega)]
     by_cases ga:k=a
     ·rw[if_pos ga,←ga];unfold C5;rw[hb,if_pos rfl,g1]
     ·rw[if_neg ga];exact g3 a (by omega)
    ·show r2.getD a []=_
     rw[q2,aN (by omega),if_neg (by omega)];exact g4 a (by omega) han)
 rw[Nat.zero_add] at g3
 simp only at g2 g3
 refine⟨l',rows,e,?_⟩
 refine List.ext_getElem? λi=>?_
 by_cases g:i<n
 ·rw[ix [] (by omega),g3 i g,List.getElem?_map,List.getElem?_range g];rfl
 ·rw[List.getElem?_eq_none (by omega),List.getElem?_eq_none (by simp;omega)]
section
variable {p:Nat}[NeZero p]{n t:Nat}
theorem KF(hp:fQ p){S:List (List (List (List Nat)))}(s:Ss p n t S)(ht:t≤2)(hn:n≤7)(hnp:n<p){d:Nat}(hd:d<n){f:Nat→Bool}:Lt p (yG p n (S.getD d []) f)∧(yG p n (S.getD d []) f).length≤210:=by
 refine⟨vK λi hi=>?_,?_⟩
 ·split
  ·exact(rt hp s ht hd (by omega)).2
  ·intro k hk;simp at hk
 ·have:=rP (n:=n) (w:=30) (v:=λi=>if f i then rr p (S.getD d []) (i+1) else[]) (λi hi=>by
   split
   ·rw[(rt hp s ht hd (by omega)).1]
    exact Nat.le_trans (Nat.mul_le_mul (s.many d hd) (show t+1≤3 by omega)) (by decide)
   ·simp)
  unfold yG
  omega
/-- the pieces of what an honest dealer tells -/
theorem KO(hp:fQ p){S:List (List (List (List Nat)))}(s:Ss p n t S)(ht:t≤2)(hnp:n<p){d:Nat}(hd:d<n){f:Nat→Bool}{a k:Nat}(ha:a<n)(hf:f a=true)(hk:k<(S.getD d []).length):(C5 (yG p n (S.getD d []) f) f t (S.getD d []).length a).getD k []=Rw p ((S.getD d []).getD k []) (a+1):=by
 have hpre:∀b,b≤n→((List.range b).map λi=>if f i then rr p (S.getD d []) (i+1) else[]).flatten.length=cnt f b*((S.getD d []).length*(t+1)):=by
  intro b
  induction b with
  | zero=>intro _;simp[cnt]
  | succ b ih =>
   intro hb
   rw[List.range_succ,List.map_append,List.flatten_append,List.length_append,ih (by omega),m9]
   cases hfb:f b
   ·simp[hfb]
   ·simp only[List.map_cons,List.map_nil,hfb,if_true,List.flatten_cons,List.flatten_nil,List.append_nil]
    rw[(rt hp s ht hd (by omega)).1,Nat.add_mul,Nat.one_mul]
 obtain⟨rest,e⟩:=yj (v:=λi=>if f i then rr p (S.getD d []) (i+1) else[]) ha
 unfold C5
 rw[if_pos hf]
 have e2:(yG p n (S.getD d []) f).drop (cnt f a*((S.getD d []).length*(t+1)))=rr p (S.getD d []) (a+1)++rest:=by
  unfold yG
  rw[e,←hpre a (by omega),List.drop_left]
  simp only[hf,if_true]
 rw[e2,J2 (rt hp s ht hd (by omega)).1]
 exact BC hp s ht hd (by omega) hk
theorem KM{c:ax}(cs:Cs p n t c)(ha:Ac n c.bg)(h0:c.dA=[]){B:Nat}(hv:VB n B c.zn.av)(hB:B≤500)(hr:0≤c.zn.ah∧c.zn.ah≤1000) :
  ∃(told:List (List (List (List Nat)))) (views:List (List am)),nu c=some (c.zn.ah+1,views,told)∧Td p n t (λd=>(c.zd.S.getD d []).length) c.bg told ∧
   (∀d,d<n→Hn c.zn.zw d→∀a,a<n→ac c.bg d a=true→∀k,k<(c.zd.S.getD d []).length→((told.getD d []).getD a []).getD k []=Rw p ((c.zd.S.getD d []).getD k []) (a+1))∧VB n (B+n) views ∧
   ∃h,bk c.zn.zw c.zn.ah ((List.range n).map λd=>yG p n (c.zd.S.getD d []) (ac c.bg d))=some h∧(∀d,d<n→∀a,a<n→(told.getD d []).getD a []=C5 (h.getD d []) (ac c.bg d) t (c.zd.S.getD d []).length a)∧∀j,j<n→views.getD j []=c.zn.av.getD j []++y6 c.zn.ah h j n:=by
 have hp:fQ p:=by rw[←cs.pw];exact cs.sc.sup
 have hlt:=hp.lt
 have hn:=cs.n7
 have ht:=cs.t2
 have hRl:c.zd.Rows.length=n:=cs.R.len
 have hmx:max 0 ((n:Nat):Int).toNat=n:=by simp
 have e1:cZ (λk1 (st:(List (List Nat)))=>nv c k1 st) n 0 ([]:List (List Nat))=some ((List.range n).map λd=>yG p n (c.zd.S.getD d []) (ac c.bg d)):=fA _ (λd l hd hl=>by
  have hm:=cs.S.many d hd
  unfold nv
  rw[ix [] (by rw[ha.1];exact hd),bS,ha.2 d hd,Nat.sub_zero]
  have e2:cZ (λk2 (st:(List Nat))=>nw c d (c.bg.getD d []) k2 st) n 0 ([]:List Nat)=some (yG p n (c.zd.S.getD d []) (ac c.bg d)):=tE (λi=>if ac c.bg d i then rr p (c.zd.S.getD d []) (i+1) else[]) (λi l' hi hl'=>by
   have hll:l'.length≤i*30:=by
    rw[hl']
    refine rP λj hj=>?_
    split
    ·rw[(rt hp cs.S ht hd (by omega)).1]
     exact Nat.le_trans (Nat.mul_le_mul hm (show t+1≤3 by omega)) (by decide)
    ·simp
   unfold nw
   rw[ix false (by rw[ha.2 d hd];exact hi),bS]
   show(bif ac c.bg d i then _ else _)=_
   cases hb:ac c.bg d i
   ·rw[cF,if_neg (by decide),List.append_nil]
   ·rw[cT,if_pos rfl,ix [] (by rw[cs.S.len];exact hd),bS,Nat.sub_zero,EZ (λk=>Rw p ((c.zd.S.getD d []).getD k []) (i+1)) (λk l2 hk hl2=>by
     obtain⟨r1,_,r2,_,_⟩:=pE hp (cs.S.mat d hd k hk) (by omega) (show i+1<p by omega)
     have hl3:l2.length≤l'.length+k*3:=by
      rw[hl2,List.length_append]
      have:=rP (n:=k) (w:=3) (v:=λk=>Rw p ((c.zd.S.getD d []).getD k []) (i+1)) (λj hj=>by
       rw[(pE hp (cs.S.mat d hd j (by omega)) (by omega) (show i+1<p by omega)).2.2.1];omega)
      omega
     unfold qv
     rw[ix [] hk,bS,y4 (by omega),bS,cs.P,r1,bS,aM (by omega) (by omega),bS]),bS]
    rfl)
  rw[e2,bS,aM (by simp only[List.length_cons,List.length_nil];omega) (by simp only[List.length_cons,List.length_nil];omega),bS])
 have hbl:Bl c.zn.zw.S.P n 210 ((List.range n).map λd=>yG p n (c.zd.S.getD d []) (ac c.bg d)):=⟨by simp,λd hd=>by
  rw[bR hd,cs.pw]
  exact KF hp cs.S ht hn (by omega) hd⟩
 obtain⟨heard,views,e3,b1,b2,b3,b5,b6⟩:=Dh cs.sc hbl (by omega) hv hB hr
 rw[cs.pw] at b1
 have et:((t:Nat):Int)+1=((t+1:Nat):Int):=by omega
 have hgd:∀d,d<n→∀a,a<n→(((List.range n).map λd=>(List.range n).map (C5 (heard.getD d []) (ac c.bg d) t (c.zd.S.getD d []).length)).getD d []).getD a []=C5 (heard.getD d []) (ac c.bg d) t (c.zd.S.getD d []).length a:=λd hd a ha2=>by rw[bR hd,bR ha2]
 refine⟨(List.range n).map λd=>(List.range n).map (C5 (heard.getD d []) (ac c.bg d) t (c.zd.S.getD d []).length),views,?_,⟨by simp,λd hd=>by rw[bR hd];simp,λd hd a ha2 hb=>?_,λd hd a ha2 hb=>?_,λd hd a ha2 hb k hk=>?_⟩,λd hd hh a ha2 hb k hk=>?_,b3,heard,b5,hgd,b6⟩
 ·unfold nu bu bp
  rw[hRl,bS,hmx,bJ (by omega),bS,Nat.sub_zero,e1,bS,e3,bS]
  simp only
  rw[bS,cs.sc.T,bi (by omega) (by omega),bS,hRl,bS,hmx,bJ (by omega),bS,Nat.sub_zero,et,h0,fA (λd=>(List.range n).map (C5 (heard.getD d []) (ac c.bg d) t (c.zd.S.getD d []).length)) (λd l hd hl=>by
   obtain⟨l',rows,e4,hrw⟩:=HK (r7:=(heard,c.zn.ah+1,views)) (l9:=l) cs hd (ha.2 d hd) (l:=heard.getD d []) (by have:=(b1.w d hd).2;omega)
   unfold qw bu
   simp only
   rw[ix [] (by rw[b1.len];exact hd),bS,hRl,bS,ci (by omega) (by omega) (by omega) (by omega),bS,ix [] (by rw[ha.1];exact hd),bS,Int.toNat_natCast,ha.2 d hd,Nat.sub_zero,e4,bS]
   simp only
   rw[hrw,aM (by simp only[List.length_cons,List.length_nil];omega) (by simp only[List.length_cons,List.length_nil];omega),bS]
   rfl),bS]
 ·rw[hgd d hd a ha2];unfold C5;rw[hb];rfl
 ·rw[hgd d hd a ha2];unfold C5;rw[hb,if_pos rfl,pj]
 ·rw[hgd d hd a ha2];unfold C5;rw[hb,if_pos rfl,rR hk]
  refine⟨by simp,wi λc' _=>?_⟩
  rw[List.getD_eq_getElem?_getD,List.getElem?_drop,←List.getD_eq_getElem?_getD]
  exact Lt.get hp.pos (b1.w d hd).1 _
 ·rw[hgd d hd a ha2,b2 d hd hh,bR hd]
  exact KO hp cs.S ht (by omega) hd ha2 hb hk
/-- a public row of dealer d contradicts the rows of party i -/
def Ob(p n:Nat)(R told:List (List (List (List Nat))))(acc:List (List Bool))(i d:Nat):Prop:=ac acc d i=false∧∃a,a<n∧∃k,k<((told.getD d []).getD a []).length∧pB p (((told.getD d []).getD a []).getD k []) (i+1)≠pB p (((R.getD i []).getD d []).getD k []) (a+1)
theorem Ax{c:ax}(cs:Cs p n t c)(ha:Ac n c.bg)(td:Td p n t (λd=>(c.zd.S.getD d []).length) c.bg c.dA){i d:Nat}(hi:i<n)(hd:d<n) :
  ∃b,dM c ((i:Nat):Int) ((d:Nat):Int)=some b∧(b=true↔Ob p n c.zd.Rows c.dA c.bg i d):=by
 have hp:fQ p:=by rw[←cs.pw];exact cs.sc.sup
 have hlt:=hp.lt
 have hn:=cs.n7
 have ht:=cs.t2
 unfold dM
 rw[aS [] (by omega) (by rw[ha.1];omega),bS,Int.toNat_natCast,aS false (by omega) (by rw[ha.2 d hd];omega),bS,Int.toNat_natCast]
 show ∃b,(bif ac c.bg d i then _ else _)=some b∧_
 cases hb:ac c.bg d i
 ·rw[cF,aS [] (by omega) (by rw[td.len];omega),bS,Int.toNat_natCast,td.row d hd,Nat.sub_zero]
  have key:=tD (body:=λk1 (st:Unit)=>kn c ((i:Nat):Int) ((d:Nat):Int) (c.dA.getD d []) k1) (n:=n)
   (λa=>∃k,k<((c.dA.getD d []).getD a []).length∧pB p (((c.dA.getD d []).getD a []).getD k []) (i+1)≠pB p (((c.zd.Rows.getD i []).getD d []).getD k []) (a+1)) (λa ha2=>by
    unfold kn
    rw[ix [] (by rw[td.row d hd];exact ha2),bS,Nat.sub_zero]
    have key2:=tD (body:=λk2 (st:Unit)=>ko c ((i:Nat):Int) ((d:Nat):Int) a ((c.dA.getD d []).getD a []) k2) (n:=((c.dA.getD d []).getD a []).length)
     (λk=>pB p (((c.dA.getD d []).getD a []).getD k []) (i+1)≠pB p (((c.zd.Rows.getD i []).getD d []).getD k []) (a+1)) (λk hk=>by
      have hba:ac c.bg d a=true:=by
       cases h:ac c.bg d a
       ·rw[td.no d hd a ha2 h] at hk;simp at hk
       ·rfl
      have hkm:k<(c.zd.S.getD d []).length:=by rw[td.many d hd a ha2 hba] at hk;exact hk
      obtain⟨w1,w2⟩:=td.w d hd a ha2 hba k hkm
      obtain⟨w3,w4⟩:=cs.R.w i hi d hd k hkm
      unfold ko
      rw[ix [] hk,bS,y4 (by omega),bS,cs.P,(jq hp w2 (by omega) (by omega)).1,bS,G9 cs hi hd hkm,bS,y4 (by omega),bS,(jq hp w4 (by omega) (by omega)).1,bS]
      by_cases g:pB p (((c.dA.getD d []).getD a []).getD k []) (i+1)=pB p (((c.zd.Rows.getD i []).getD d []).getD k []) (a+1)
      ·rw[qF (by omega),cF];exact .inr ⟨rfl,λh=>h g⟩
      ·rw[qT (by omega),cT];exact .inl ⟨rfl,g⟩)
    rcases key2 with ⟨e,h⟩ | ⟨e,h⟩
    ·rw[e,bS,oF];exact .inl ⟨rfl,h⟩
    ·rw[e,bS,oG];exact .inr ⟨rfl,λ⟨k,hk,hV⟩=>h k hk hV⟩)
  rcases key with ⟨e,h⟩ | ⟨e,h⟩
  ·rw[e,bS,oF];exact⟨true,rfl,λ_=>⟨hb,h⟩,λ_=>rfl⟩
  ·rw[e,bS,oG];exact⟨false,rfl,λh'=>(by cases h'),λ⟨_,q,hq,hV⟩=>absurd hV (h q hq)⟩
 ·rw[cT]
  exact⟨false,rfl,λh=>(by cases h),λh=>by rw[h.1] at hb;cases hb⟩
end
end Pu

/- Plain laws of chapter 19: the second half. -/
set_option linter.unusedVariables false
namespace Pu
open Gw Gl Sp
theorem E2{α:Type}{body:Nat→List α→Option (List α)}(v:Nat→α){n:Nat}{l0:List α}(h0:l0.length=n)(h:∀j l,j<n→l.length=n→body j l=some (l.set j (v j))):cZ body n 0 l0=some ((List.range n).map v):=by
 obtain⟨r,e,h1,h2⟩:=bm (body:=body) (λk l=>l.length=n∧∀i,i<k→l[i]?=some (v i)) (rem:=n) (k:=0) (s:=l0) ⟨h0,λi hi=>by omega⟩ (λj l _ hj ⟨h1,h2⟩=>by
  refine⟨_,h j l (by omega) h1,by rw[List.length_set];exact h1,λi hi=>?_⟩
  rw[List.getElem?_set]
  by_cases g:j=i
  ·subst g;rw[if_pos rfl,if_pos (by omega)]
  ·rw[if_neg g];exact h2 i (by omega))
 rw[Nat.zero_add] at h2
 rw[e]
 congr 1
 refine List.ext_getElem (by simp[h1]) λi h3 h4=>?_
 have:=h2 i (by omega)
 rw[List.getElem?_eq_getElem h3] at this
 rw[Option.some.inj this];simp
/-- who is against dealer d -/
def ag(acc obj:List (List Bool))(d i:Nat):Bool:=ac acc d i||ac obj d i
/-- dealer d is disqualified -/
def dq(n t:Nat)(acc obj:List (List Bool))(d:Nat):Bool:=decide (t<cnt (ag acc obj d) n)
theorem MM{c:ax}{n t d:Nat}(hR:c.zd.Rows.length=n)(hn:n≤7)(hT:c.zn.zw.S.T=(t:Int))(ha:Ac n c.bg)(ho:Ac n c.ca)(hd:d<n):oc c ((d:Nat):Int)=some (dq n t c.bg c.ca d):=by
 have hmx:max 0 ((n:Nat):Int).toNat=n:=by simp
 unfold oc bu bp
 rw[hR,bS,hmx,bJ (by omega),bS,Nat.sub_zero]
 obtain⟨x,e,hx⟩:=bm (body:=λk1 (st:Int)=>n0 c ((d:Nat):Int) k1 st) (rem:=n) (k:=0) (s:=((0:Nat):Int))
  (λk s=>s=((cnt (ag c.bg c.ca d) k:Nat):Int)) (by simp[cnt]) (λk s _ hk hs=>by
   have hkn:k<n:=by omega
   have hc:=LI (f:=ag c.bg c.ca d) (a:=k)
   subst hs
   unfold n0
   rw[aS [] (by omega) (by rw[ha.1];omega),bS,Int.toNat_natCast,ix false (by rw[ha.2 d hd];exact hkn),bS]
   show ∃s',(bif ac c.bg d k then _ else _)=some s'∧_
   cases h1:ac c.bg d k
   ·rw[cF,aS [] (by omega) (by rw[ho.1];omega),bS,Int.toNat_natCast,ix false (by rw[ho.2 d hd];exact hkn),bS]
    show ∃s',(bif ac c.ca d k then _ else _)=some s'∧_
    cases h2:ac c.ca d k
    ·rw[cF]
     exact⟨_,rfl,by rw[m9];simp[ag,h1,h2]⟩
    ·rw[cT,bi (by omega) (by omega),bS]
     exact⟨_,rfl,by rw[m9];simp[ag,h1,h2]⟩
   ·rw[cT,bi (by omega) (by omega),bS]
    exact⟨_,rfl,by rw[m9];simp[ag,h1]⟩)
 rw[Nat.zero_add] at hx
 subst hx
 rw[e,bS,bS,hT]
 congr 1
 exact decide_eq_decide.2 (by omega)
/-- what a party finally holds -/
def BF(t m:Nat)(row told:List (List Nat))(out acc:Bool):List (List Nat):=if out then List.replicate m (List.replicate (t+1) 0) else if acc then told else row
theorem J4{c:ax}{p n t i d:Nat}(cs:Cs p n t c)(ha:Ac n c.bg)(td:Td p n t (λd=>(c.zd.S.getD d []).length) c.bg c.dA)(hi:i<n)(hd:d<n)(out:Bool) :
  nt c ((i:Nat):Int) ((d:Nat):Int) out=some (BF t (c.zd.S.getD d []).length ((c.zd.Rows.getD i []).getD d []) ((c.dA.getD d []).getD i []) out (ac c.bg d i)):=by
 have hn:=cs.n7
 have ht:=cs.t2
 have hm:=cs.S.many d hd
 have et:((t:Nat):Int)+1=((t+1:Nat):Int):=by omega
 unfold nt
 cases out
 ·rw[cF,aS [] (by omega) (by rw[ha.1];omega),bS,Int.toNat_natCast,aS false (by omega) (by rw[ha.2 d hd];omega),bS,Int.toNat_natCast]
  show(bif ac c.bg d i then _ else _)=_
  cases hb:ac c.bg d i
  ·rw[cF,aS [] (by omega) (by rw[cs.R.len];omega),bS,Int.toNat_natCast,aS [] (by omega) (by rw[cs.R.row i hi];omega),bS,Int.toNat_natCast,rb (by rw[cs.R.many i hi d hd];omega),bS]
   rfl
  ·rw[cT,aS [] (by omega) (by rw[td.len];omega),bS,Int.toNat_natCast,aS [] (by omega) (by rw[td.row d hd];omega),bS,Int.toNat_natCast]
   rfl
 ·unfold hJ
  rw[cT,aS [] (by omega) (by rw[cs.S.len];omega),bS,bS]
  simp only[Int.toNat_natCast]
  rw[ci (by omega) (by omega) (by omega) (by omega),bS,Int.toNat_natCast,List.length_replicate,Nat.sub_zero,E2 (λ_=>List.replicate (t+1) 0) (by simp) (λj l hj hl=>by
   unfold qu bp
   rw[bS,cs.sc.T,bi (by omega) (by omega),bS,et,ci (by omega) (by omega) (by omega) (by omega),bS,ix [] (by omega),bS,bS,Int.toNat_natCast]),bS]
  unfold BF
  rw[if_pos rfl]
  congr 1
  refine List.ext_getElem (by simp) λa h1 h2=>by simp
/-- what has been said in the second half -/
structure QF(w:ae)(n t:Nat)(z:aU)(round:Int)(v0 views:List (List am))(ans:List (List (List Nat)))(told:List (List (List (List Nat))))(acc obj:List (List Bool))(h3 h4 h5 h6:List (List Nat))(b1 b2:Nat→Nat→Bool):Prop where
 a3:bk w round ((List.range n).map λd=>yF w.S.P (z.S.getD d []) (pS z.aO n d n))=some h3
 eans:∀d,d<n→ans.getD d []=got (h3.getD d []) (z.S.getD d []).length (pS z.aO n d n).length
 eb1:∀i,i<n→∀d,d<n→(b1 i d=true↔Wr w.S.P n z i d (ans.getD d []))
 a4:bk w (round+1) ((List.range n).map λi=>(List.range n).map λd=>if b1 i d then 1 else 0)=some h4
 eacc:∀d,d<n→∀i,i<n→ac acc d i=((((h4.getD i []).getD d 0:Nat):Int) != 0)
 a5:bk w (round+1+1) ((List.range n).map λd=>yG w.S.P n (z.S.getD d []) (ac acc d))=some h5
 etold:∀d,d<n→∀a,a<n→(told.getD d []).getD a []=C5 (h5.getD d []) (ac acc d) t (z.S.getD d []).length a
 eb2:∀i,i<n→∀d,d<n→(b2 i d=true↔Ob w.S.P n z.Rows told acc i d)
 a6:bk w (round+1+1+1) ((List.range n).map λi=>(List.range n).map λd=>if b2 i d then 1 else 0)=some h6
 eobj:∀d,d<n→∀i,i<n→ac obj d i=((((h6.getD i []).getD d 0:Nat):Int) != 0)
 v:∀j,j<n→views.getD j []=v0.getD j []++y6 round h3 j n++y6 (round+1) h4 j n++y6 (round+1+1) h5 j n++y6 (round+1+1+1) h6 j n
theorem Bi {net:ai} [NeZero net.zw.S.P] {n t:Nat} {z:aU} (s:Sc net.zw n t) (hn:n≤7) (ht:t≤2) (S:Ss net.zw.S.P n t z.S) (R:Rr net.zw.S.P n t (fun d=>(z.S.getD d []).length) z.Rows) (F:Fl n z.aO) {B:Nat} (hv:VB n B net.av) (hB:B≤400) (hr:0≤net.ah∧net.ah≤900) :
    ∃ (ans told:List (List (List (List Nat)))) (acc obj:List (List Bool)) (views:List (List am)),pp net z=some (⟨(List.range n).map fun i=>(List.range n).map fun d=>BF t (z.S.getD d []).length ((z.Rows.getD i []).getD d []) ((told.getD d []).getD i []) (dq n t acc obj d) (ac acc d i),(List.range n).map (dq n t acc obj)⟩,net.ah+4,views) ∧
      (∀ d,d < n→Hn net.zw d→(ans.getD 0 []).getD d []=got (yF net.zw.S.P (z.S.getD d []) (pS z.aO n d n)) (z.S.getD d []).length (pS z.aO n d n).length) ∧
      (∀ i,i < n→Hn net.zw i→∀ d,d < n→(ac acc d i=true ↔ Wr net.zw.S.P n z i d ((ans.getD 0 []).getD d []))) ∧
      Td net.zw.S.P n t (fun d=>(z.S.getD d []).length) acc told ∧
      (∀ d,d < n→Hn net.zw d→∀ a,a < n→ac acc d a=true→∀ k,k < (z.S.getD d []).length→((told.getD d []).getD a []).getD k []=Rw net.zw.S.P ((z.S.getD d []).getD k []) (a+1)) ∧
      (∀ i,i < n→Hn net.zw i→∀ d,d < n→(ac obj d i=true ↔ Ob net.zw.S.P n z.Rows told acc i d)) ∧
      VB n (B+4*n) views ∧
      ∃ h3 h4 h5 h6 b1 b2,QF net.zw n t z net.ah net.av views (ans.getD 0 []) told acc obj h3 h4 h5 h6 b1 b2:=by
  have hp:=s.sup
  have hRl:z.Rows.length=n:=R.len
  have hmx:max 0 ((n:Nat):Int).toNat=n:=by simp
  have hcs:∀ (r:Int) (v:List (List am)) (T:List aL) (a o:List (List Bool)) (l:List (List (List (List Nat)))),Cs net.zw.S.P n t ⟨⟨net.zw,r,v,T⟩,net.zw.S.P,z,a,o,l⟩:=fun r v T a o l=>⟨rfl,rfl,s,hn,ht,S,R,F⟩
  -- answers
  obtain ⟨heard,v1,e1,a1,a2,a3,a5,a6⟩:=Cj (c:=⟨net,net.zw.S.P,z,[],[],[]⟩) (hcs net.ah net.av net.ak [] [] []) hv (by omega) (by show 0≤net.ah∧net.ah≤1000;omega)
  simp only at e1 a2 a5 a6
  generalize hans:((List.range n).map fun d=>got (heard.getD d []) (z.S.getD d []).length (pS z.aO n d n).length)=ans at e1
  have hansd:∀ d,d < n→ans.getD d []=got (heard.getD d []) (z.S.getD d []).length (pS z.aO n d n).length:=fun d hd=>by rw [← hans,bR hd]
  have hansl:ans.length=n:=by rw [← hans];simp
  -- accusations
  have hw:∀ i,i < n→∀ d,d < n→∃ b,iL ((i:Nat):Int) ((d:Nat):Int) (⟨⟨net.zw,net.ah+1,v1,net.ak⟩,net.zw.S.P,z,[],[],[]⟩:ax) ans=some b∧(b=true ↔ Wr net.zw.S.P n z i d (ans.getD d [])):=fun i hi d hd=>by
    obtain ⟨b,e,h⟩:=C9 (hcs (net.ah+1) v1 net.ak [] [] []) hi hd (ans:=ans.getD d []) (by rw [hansd d hd,pj]) (fun q hq=>by
      rw [hansd d hd,pj] at hq
      rw [hansd d hd,rR hq];simp)
    refine ⟨b,?_,h⟩
    unfold iL
    rw [aS [] (by omega) (by omega),bS,Int.toNat_natCast,e,bS]
  obtain ⟨acc,v2,e2,b1,b2,b3,h4,b5,b6,b7⟩:=Ea (c:=⟨⟨net.zw,net.ah+1,v1,net.ak⟩,net.zw.S.P,z,[],[],[]⟩) s hn hRl (says:=fun i d=>iL ((i:Nat):Int) ((d:Nat):Int) (⟨⟨net.zw,net.ah+1,v1,net.ak⟩,net.zw.S.P,z,[],[],[]⟩:ax) ans)
    (b:=fun i d=>(iL ((i:Nat):Int) ((d:Nat):Int) (⟨⟨net.zw,net.ah+1,v1,net.ak⟩,net.zw.S.P,z,[],[],[]⟩:ax) ans).getD false) (fun i hi d hd=>by
      obtain ⟨b,e,_⟩:=hw i hi d hd
      rw [e];rfl) a3 (by omega) (by show 0≤net.ah+1∧net.ah+1≤1000;omega)
  simp only at e2 b2 b5 b7
  have hacc:∀ i,i < n→Hn net.zw i→∀ d,d < n→(ac acc d i=true ↔ Wr net.zw.S.P n z i d (ans.getD d [])):=fun i hi hh d hd=>by
    obtain ⟨b,e,h⟩:=hw i hi d hd
    unfold ac
    rw [b2 i hi hh d hd,e];exact h
  -- public rows
  obtain ⟨told,v3,e3,c1,c2,c3,h5,c5,c6,c7⟩:=KM (c:=⟨⟨net.zw,net.ah+1+1,v2,net.ak⟩,net.zw.S.P,z,acc,[],[]⟩) (hcs _ v2 net.ak acc [] []) b1 rfl b3 (by omega) (by show 0≤net.ah+1+1∧net.ah+1+1≤1000;omega)
  simp only at e3 c1 c2 c5 c6 c7
  -- objections
  have ho:∀ i,i < n→∀ d,d < n→∃ b,dM (⟨⟨net.zw,net.ah+1+1+1,v3,net.ak⟩,net.zw.S.P,z,acc,[],told⟩:ax) ((i:Nat):Int) ((d:Nat):Int)=some b∧(b=true ↔ Ob net.zw.S.P n z.Rows told acc i d):=fun i hi d hd =>
    Ax (hcs _ v3 net.ak acc [] told) b1 c1 hi hd
  obtain ⟨obj,v4,e4,d1,d2,d3,h6,d5,d6,d7⟩:=Ea (c:=⟨⟨net.zw,net.ah+1+1+1,v3,net.ak⟩,net.zw.S.P,z,acc,[],told⟩) s hn hRl (says:=fun i d=>dM (⟨⟨net.zw,net.ah+1+1+1,v3,net.ak⟩,net.zw.S.P,z,acc,[],told⟩:ax) ((i:Nat):Int) ((d:Nat):Int))
    (b:=fun i d=>(dM (⟨⟨net.zw,net.ah+1+1+1,v3,net.ak⟩,net.zw.S.P,z,acc,[],told⟩:ax) ((i:Nat):Int) ((d:Nat):Int)).getD false) (fun i hi d hd=>by
      obtain ⟨b,e,_⟩:=ho i hi d hd
      rw [e];rfl) c3 (by omega) (by show 0≤net.ah+1+1+1∧net.ah+1+1+1≤1000;omega)
  simp only at e4 d2 d5 d7
  have hobj:∀ i,i < n→Hn net.zw i→∀ d,d < n→(ac obj d i=true ↔ Ob net.zw.S.P n z.Rows told acc i d):=fun i hi hh d hd=>by
    obtain ⟨b,e,h⟩:=ho i hi d hd
    unfold ac
    rw [d2 i hi hh d hd,e];exact h
  refine ⟨[ans],told,acc,obj,v4,?_,fun d hd hh=>by show ans.getD d []=_;rw [hansd d hd,a2 d hd hh],hacc,c1,c2,hobj,⟨d3.1,fun j hj=>Nat.le_trans (d3.2 j hj) (by omega)⟩,heard,h4,h5,h6,_,_,a5,fun d hd=>hansd d hd,fun i hi d hd=>?_,b5,fun d hd i hi=>b6 d hd i hi,c5,c6,fun i hi d hd=>?_,d5,fun d hd i hi=>d6 d hd i hi,fun j hj=>by rw [d7 j hj,c7 j hj,b7 j hj,a6 j hj]⟩
  · unfold pp bp
    rw [bS,e1,bS]
    simp only
    rw [OI,e2,bS]
    simp only
    rw [e3,bS]
    simp only
    rw [OJ,e4,bS]
    unfold bu
    simp only
    rw [hRl,bS,hmx,bJ (by omega),bS,Nat.sub_zero,fA (dq n t acc obj) (fun d l hd hl=>by
      unfold sv
      simp only
      rw [MM (c:=⟨⟨net.zw,net.ah+1+1+1+1,v4,net.ak⟩,net.zw.S.P,z,acc,obj,told⟩) hRl hn s.T b1 d1 hd,bS,aM (by simp only [List.length_cons,List.length_nil];omega) (by simp only [List.length_cons,List.length_nil];omega),bS]),bS,
      fA (fun i=>(List.range n).map fun d=>BF t (z.S.getD d []).length ((z.Rows.getD i []).getD d []) ((told.getD d []).getD i []) (dq n t acc obj d) (ac acc d i)) (fun i l hi hl=>by
      unfold sw
      rw [hmx,Nat.sub_zero,fA (fun d=>BF t (z.S.getD d []).length ((z.Rows.getD i []).getD d []) ((told.getD d []).getD i []) (dq n t acc obj d) (ac acc d i)) (fun d l2 hd hl2=>by
        unfold sx
        simp only
        rw [ix false (by simp;exact hd),bS,bR hd,J4 (hcs (net.ah+1+1+1+1) v4 net.ak acc obj told) b1 c1 hi hd,bS,aM (by simp only [List.length_cons,List.length_nil];omega) (by simp only [List.length_cons,List.length_nil];omega),bS]),bS,aM (by simp only [List.length_cons,List.length_nil];omega) (by simp only [List.length_cons,List.length_nil];omega),bS]),bS]
    have:net.ah+1+1+1+1=net.ah+4:=by omega
    rw [this]
  · obtain ⟨b,e,h⟩:=hw i hi d hd
    rw [e];exact h
  · obtain ⟨b,e,h⟩:=ho i hi d hd
    rw [e];exact h
end Pu

/- Plain laws of chapter 19: rows that agree with the rows of T + 1 parties agree with each other. -/
set_option linter.unusedVariables false
namespace Pu
open Gw Gl Sp
/-- the product of y - X j for all j before k but i -/
def pd{R:Type}[Lean.Grind.CommRing R](X:Nat→R)(i:Nat)(y:R):Nat→R
 | 0=>1
 | k+1=>if k=i then pd X i y k else pd X i y k*(y-X k)
theorem AB{R:Type}[Lean.Grind.CommRing R]{X:Nat→R}{i j:Nat}(hij:j≠i):∀{n:Nat},j<n→pd X i (X j) n=0
 | 0,h=>by omega
 | n+1,h=>by
  rw[pd]
  by_cases g:j=n
  ·subst g;rw[if_neg hij];grind
  ·have:=AB (X:=X) hij (n:=n) (by omega)
   split
   ·exact this
   ·rw[this];grind
/-- the same as a list of coefficients -/
def Fs{R:Type}[Lean.Grind.CommRing R](X:Nat→R)(i:Nat):Nat→List R
 | 0=>[1]
 | k+1=>if k=i then Fs X i k else nf (Fs X i k) [-X k,1]
theorem xO{R:Type}[Lean.Grind.CommRing R]{X:Nat→R}{i:Nat}(y:R):∀{n:Nat},bZ (Fs X i n) y=pd X i y n
 | 0=>by simp only[Fs,bZ,pd];grind
 | n+1=>by
  rw[pd,Fs]
  split
  ·exact xO y
  ·rw[pT,xO y];simp only[bZ];grind
theorem DT{R:Type}[Lean.Grind.CommRing R]{X:Nat→R}{i:Nat}:∀{n:Nat},(Fs X i n).length+(if i<n then 1 else 0)≤n+1
 | 0=>by simp[Fs]
 | n+1=>by
  have ih:=DT (X:=X) (i:=i) (n:=n)
  rw[Fs]
  split
  ·rename_i g
   rw[if_neg (by omega)] at ih
   rw[if_pos (by omega)];omega
  ·rename_i g
   have:=rk (Fs X i n) [-X n,1] (by simp)
   simp only[List.length_cons,List.length_nil] at this
   split at ih
   ·rw[if_pos (by omega)];omega
   ·rw[if_neg (by omega)];omega
/-- a sum of multiples of lists -/
def xC{R:Type}[Lean.Grind.CommRing R](c:Nat→R)(B:Nat→List R):Nat→List R
 | 0=>[]
 | k+1=>ot (xC c B k) (wV (c k) (B k))
theorem vN{R:Type}[Lean.Grind.CommRing R]{c:Nat→R}{B:Nat→List R}(y:R):∀{n:Nat},bZ (xC c B n) y=sm n (λk=>c k*bZ (B k) y)
 | 0=>rfl
 | n+1=>by rw[xC,ta,rf,vN y,sm]
theorem yu{R:Type}[Lean.Grind.CommRing R]{c:Nat→R}{B:Nat→List R}{m:Nat}:∀{n:Nat},(∀k,k<n→(B k).length≤m)→(xC c B n).length≤m
 | 0,_=>by simp[xC]
 | n+1,h=>by
  rw[xC,tu,tG]
  have:=yu (c:=c) (B:=B) (n:=n) (λk hk=>h k (by omega))
  have:=h n (by omega)
  omega
section
variable {p:Nat}[NeZero p]
theorem mK{f:List Nat}{n:Nat}(h:f.length≤n)(x:Fin p):bZ (P p f) x=sm n (λj=>o p (f.getD j 0)*x ^ j):=by
 rw[yi (n:=n) x (by rw[mG];exact h)]
 exact bY λj _=>by rw[oe]
theorem tc(f:List Nat):bZ (P p f) 0=o p (f.getD 0 0):=by
 cases f with
 | nil=>simp only[P,List.map_nil,bZ];exact lf.symm
 | cons a l=>simp only[P,List.map_cons,bZ];show o p a+_=o p a;grind
theorem Ha(hp:fQ p){X:Nat→Fin p}{i:Nat}{y:Fin p}:∀{n:Nat},(∀j,j<n→j≠i→y-X j≠0)→pd X i y n≠0
 | 0,_=>hp.one
 | n+1,h=>by
  rw[pd]
  have ih:=Ha hp (X:=X) (i:=i) (y:=y) (n:=n) (λj hj=>h j (by omega))
  split
  ·exact ih
  ·rename_i g
   intro e
   rcases hp.nz _ _ e with e | e
   ·exact ih e
   ·exact h n (by omega) g e
theorem PY(hp:fQ p){a:Fin p}(h:a≠0):∃b,b*a=1:=by
 have h1:a.val % p≠0:=λe=>h (by rw[←uS a,xk];exact e)
 have:=hp.oinv h1
 rw[uS] at this
 exact⟨_,this⟩
/-- the weights of interpolation -/
theorem Q7(hp:fQ p){t:Nat}{X:Nat→Fin p}(hX:∀i j,i<t→j<t→i≠j→X i≠X j)(y:Fin p):∃w:Nat→Fin p,∀f:List (Fin p),f.length≤t→bZ f y=sm t (λg=>w g*bZ f (X g)):=by
 have hd:∀g,g<t→pd X g (X g) t≠0:=λg hg=>Ha hp λj hj hjg e=>hX g j hg hj (λe=>hjg e.symm) (by grind)
 have hi:∀g,∃b,g<t→b*pd X g (X g) t=1:=λg=>by
  by_cases hg:g<t
  ·obtain⟨b,hb⟩:=PY hp (hd g hg)
   exact⟨b,λ_=>hb⟩
  ·exact⟨0,λh=>absurd h hg⟩
 obtain⟨inv,hinv⟩:∃inv:Nat→Fin p,∀g,g<t→inv g*pd X g (X g) t=1:=⟨λg=>Classical.choose (hi g),λg hg=>Classical.choose_spec (hi g) hg⟩
 refine⟨λg=>inv g*pd X g y t,λf hf=>?_⟩
 have hl:(xC (λg=>bZ f (X g)*inv g) (λg=>Fs X g t) t).length≤t:=yu λk hk=>by
  have:=DT (X:=X) (i:=k) (n:=t)
  rw[if_pos hk] at this;omega
 have hnd:((List.range t).map X).Nodup:=by
  rw[List.Nodup,List.pairwise_iff_getElem]
  intro i j hi hj hij
  simp only[List.length_map,List.length_range] at hi hj
  simp only[List.getElem_map,List.getElem_range]
  exact hX i j hi hj (by omega)
 have hcf:=pz hp.nz (f:=f) (g:=xC (λg=>bZ f (X g)*inv g) (λg=>Fs X g t) t) hnd (by simp;exact hf) (by simp;exact hl) (λx hx=>by
  obtain⟨i,hi,rfl⟩:=List.mem_map.1 hx
  have hi:i<t:=by simpa using hi
  have e1:=C2 (n:=t) hi (λ_=>(0:Fin p)) (λk=>bZ f (X k)*inv k*pd X k (X i) t) (bZ f (X i)) (by
   have:=hinv i hi
   have e:bZ f (X i)*inv i*pd X i (X i) t=bZ f (X i)*(inv i*pd X i (X i) t):=by grind
   show bZ f (X i)*inv i*pd X i (X i) t=bZ f (X i)+0
   rw[e,this];grind) (λj hj hji=>by
   show bZ f (X j)*inv j*pd X j (X i) t=0
   rw[AB (X:=X) (i:=j) (j:=i) (λe=>hji e.symm) hi];grind)
  have e2:sm t (λ_=>(0:Fin p))=0:=sg λ_ _=>rfl
  rw[vN]
  have e3:sm t (λk=>bZ f (X k)*inv k*bZ (Fs X k t) (X i))=sm t (λk=>bZ f (X k)*inv k*pd X k (X i) t):=bY λk _=>by rw[xO]
  rw[e3,e1,e2];grind)
 rw[ly hcf y,vN]
 exact bY λk _=>by rw[xO];grind
/-- what agrees with T + 1 rows is one symmetric polynomial -/
theorem N5(hp:fQ p){t:Nat}{H:Nat→Prop}{f:Nat→List Nat}{X:Nat→Fin p}{G:Nat→Nat}(hG:∀g,g<t+1→H (G g))(hne:∀g h,g<t+1→h<t+1→g≠h→X (G g)≠X (G h))(hl:∀i,H i→(f i).length≤t+1)
  (hc:∀i,H i→∀g,g<t+1→bZ (P p (f i)) (X (G g))=bZ (P p (f (G g))) (X i)) :
  (∀i j,H i→H j→bZ (P p (f i)) (X j)=bZ (P p (f j)) (X i))∧∀y,∃h:List Nat,Lt p h∧h.length≤t+1∧∀i,H i→bZ (P p (f i)) y=bZ (P p h) (X i):=by
 have hw:=λy=>Q7 hp (t:=t+1) (X:=λg=>X (G g)) hne y
 have hfl:∀i,H i→(P p (f i)).length≤t+1:=λi hi=>by rw[mG];exact hl i hi
 refine⟨λi j hi hj=>?_,λy=>?_⟩
 ·obtain⟨a,ha⟩:=hw (X j)
  obtain⟨b,hb⟩:=hw (X i)
  have e1:bZ (P p (f i)) (X j)=sm (t+1) (λg=>sm (t+1) (λh=>a g*(b h*bZ (P p (f (G g))) (X (G h))))):=by
   rw[ha _ (hfl i hi)]
   refine bY λg hg=>?_
   rw[hc i hi g hg,hb _ (hfl _ (hG g hg)),←nW]
  have e2:bZ (P p (f j)) (X i)=sm (t+1) (λh=>sm (t+1) (λg=>b h*(a g*bZ (P p (f (G h))) (X (G g))))):=by
   rw[hb _ (hfl j hj)]
   refine bY λg hg=>?_
   rw[hc j hj g hg,ha _ (hfl _ (hG g hg)),←nW]
  rw[e1,e2,xR]
  refine bY λh hh=>bY λg hg=>?_
  rw[hc (G g) (hG g hg) h hh];grind
 ·obtain⟨a,ha⟩:=hw y
  refine⟨(List.range (t+1)).map λj=>(sm (t+1) (λg=>a g*o p ((f (G g)).getD j 0))).val,wi λj _=>Fin.isLt _,by simp,λi hi=>?_⟩
  rw[ha _ (hfl i hi),mK (n:=t+1) (by simp)]
  have e1:sm (t+1) (λg=>a g*bZ (P p (f i)) (X (G g)))=sm (t+1) (λg=>sm (t+1) (λj=>a g*(o p ((f (G g)).getD j 0)*X i ^ j))):=bY λg hg=>by
   rw[hc i hi g hg,mK (n:=t+1) (hl _ (hG g hg)),←nW]
  rw[e1,xR]
  refine bY λj hj=>?_
  rw[bR hj,uS,Lean.Grind.CommRing.mul_comm,←nW]
  exact bY λg hg=>by grind
end
/-- three properties of which each one has one -/
theorem NP{f g h:Nat→Bool}:∀{n:Nat},(∀i,i<n→f i=true∨g i=true∨h i=true)→n≤cnt f n+cnt g n+cnt h n
 | 0,_=>by omega
 | n+1,hh=>by
  have ih:=NP (f:=f) (g:=g) (h:=h) (n:=n) (λi hi=>hh i (by omega))
  rw[m9,m9,m9]
  rcases hh n (by omega) with e | e | e
  ·rw[e,if_pos rfl];omega
  ·rw[e,if_pos rfl];omega
  ·rw[e,if_pos rfl];omega
end Pu

/- Plain laws of chapter 19: what sharing gives. -/
set_option linter.unusedVariables false
namespace Pu
open Gw Gl Sp
theorem Ix{f:Nat→Bool}{n:Nat}(h:∀i,i<n→f i=false):cnt f n=0:=by
 unfold cnt
 rw[List.length_eq_zero_iff]
 apply List.eq_nil_iff_forall_not_mem.2
 intro x hx
 obtain⟨h1,h2⟩:=List.mem_filter.1 hx
 rw[h x (by simpa using h1)] at h2;cases h2
/-- not more than T are against an honest dealer -/
theorem Iv{w:ae}{n t:Nat}(s:Sc w n t){f:Nat→Bool}(h:∀i,i<n→Hn w i→f i=false):cnt f n≤t:=by
 by_cases hd:w.aa=[]
 ·rw[Ix (λi hi=>h i hi (.inr hd))];omega
 ·have:=xT (l1:=((List.range n).filter f).map λi=>((i:Nat):Int)+1) (l2:=w.af) (by
   rw[List.Nodup,List.pairwise_map]
   exact List.Pairwise.imp (λ{a b} h=>by omega) (List.Pairwise.sublist List.filter_sublist List.nodup_range)) (λx hx=>by
   obtain⟨i,hi,rfl⟩:=List.mem_map.1 hx
   obtain⟨h1,h2⟩:=List.mem_filter.1 hi
   apply Classical.byContradiction
   intro hc
   rw[h i (by simpa using h1) (.inl hc)] at h2;cases h2)
  rw[List.length_map] at this
  have:=s.cl
  unfold cnt;omega
theorem Iw{w:ae}{n t:Nat}(s:Sc w n t):cnt (λi=>decide (((i+1:Nat):Int)∈w.af)) n≤t:=by
 have:=xT (l1:=((List.range n).filter λi=>decide (((i+1:Nat):Int)∈w.af)).map λi=>((i:Nat):Int)+1) (l2:=w.af) (by
  rw[List.Nodup,List.pairwise_map]
  exact List.Pairwise.imp (λ{a b} h=>by omega) (List.Pairwise.sublist List.filter_sublist List.nodup_range)) (λx hx=>by
  obtain⟨i,hi,rfl⟩:=List.mem_map.1 hx
  exact of_decide_eq_true (List.mem_filter.1 hi).2)
 rw[List.length_map] at this
 have:=s.cl
 unfold cnt;omega
theorem LK{F:List (List (List Nat))}{n d k i j:Nat}(hi:i<k)(hj:j<n)(h:((F.getD i []).getD d []).getD j 0≠0):∃q,q<(pS F n d k).length∧(pS F n d k).getD q ⟨0,0⟩=⟨((i:Nat):Int),((j:Nat):Int)⟩:=by
 have hm:(⟨((i:Nat):Int),((j:Nat):Int)⟩:cg)∈pS F n d k:=by
  unfold pS
  refine List.mem_flatten.2 ⟨_,List.mem_map.2 ⟨i,List.mem_range.2 hi,rfl⟩,List.mem_map.2 ⟨j,List.mem_filter.2 ⟨List.mem_range.2 hj,decide_eq_true h⟩,rfl⟩⟩
 obtain⟨q,hq,e⟩:=List.getElem_of_mem hm
 exact⟨q,hq,by rw[List.getD_eq_getElem?_getD,List.getElem?_eq_getElem hq];exact e⟩
theorem Oh{x:cg}{i:Nat}(h:x.e0=((i:Nat):Int)):∃r,r<(yQ x i).length∧(yQ x i).getD r 0=x.e1:=by
 unfold yQ
 rw[if_pos h]
 exact⟨0,by simp,rfl⟩
theorem Oi{x:cg}{i:Nat}(h:x.e1=((i:Nat):Int)):∃r,r<(yQ x i).length∧(yQ x i).getD r 0=x.e0:=by
 unfold yQ
 rw[if_pos h]
 split
 ·exact⟨1,by simp,rfl⟩
 ·exact⟨0,by simp,rfl⟩
theorem FB{p n t:Nat}{m m':Nat→Nat}{R:List (List (List (List Nat)))}(h:∀d,d<n→m d=m' d)(r:Rr p n t m R):Rr p n t m' R:=⟨r.len,r.row,λi hi d hd=>by rw[r.many i hi d hd,h d hd],λd hd=>by rw[←h d hd];exact r.m2 d hd,λi hi d hd k hk=>r.w i hi d hd k (by rw[h d hd];exact hk)⟩
/-- the result of sharing stands -/
structure Pg(w:ae)(tapes:List (List Nat))(q:List (List (List Nat)))(n t:Nat)(res:aT):Prop where
 rl:res.Rows.length=n
 dl:res.be.length=n
 row:∀i,i<n→(res.Rows.getD i []).length=n
 many:∀i,i<n→∀d,d<n→((res.Rows.getD i []).getD d []).length=(q.getD d []).length
 ww:∀i,i<n→∀d,d<n→∀k,k<(q.getD d []).length→(((res.Rows.getD i []).getD d []).getD k []).length=t+1∧Lt w.S.P (((res.Rows.getD i []).getD d []).getD k [])
 nd:∀d,d<n→Hn w d→res.be.getD d false=false
 ok:∀d,d<n→Hn w d→∀i,i<n→Hn w i→∀k,k<(q.getD d []).length→((res.Rows.getD i []).getD d []).getD k []=Rw w.S.P ((Sm q tapes t d).getD k []) (i+1)
/-- sharing binds the dealers -/
structure Com(w:ae)(q:List (List (List Nat)))(n t:Nat)[NeZero w.S.P](res:aT):Prop where
 dz:∀d,d<n→res.be.getD d false=true→∀i,i<n→∀k,k<(q.getD d []).length→((res.Rows.getD i []).getD d []).getD k []=List.replicate (t+1) 0
 cs:∀d,d<n→∀k,k<(q.getD d []).length→∀i,i<n→Hn w i→∀j,j<n→Hn w j→pB w.S.P (((res.Rows.getD i []).getD d []).getD k []) (j+1)=pB w.S.P (((res.Rows.getD j []).getD d []).getD k []) (i+1)
 sp:∀d,d<n→∀k,k<(q.getD d []).length→∀y,∃f,Lt w.S.P f∧f.length≤t+1∧∀i,i<n→Hn w i→bZ (P w.S.P (((res.Rows.getD i []).getD d []).getD k [])) y=bZ (P w.S.P f) (o w.S.P (i+1))
theorem rE{p n:Nat}[NeZero p]{x:Fin p}:bZ (P p (List.replicate n 0)) x=0:=rO (λi=>by
 rw[oe,List.getD_eq_getElem?_getD,List.getElem?_replicate]
 split <;> exact lf) _
/-- the rows that the honest parties finally hold agree -/
theorem CI{w:ae}[NeZero w.S.P]{n t d k:Nat}(s:Sc w n t)(ht:t≤2){z:aU}{m:Nat→Nat}{ans:List (List Nat)}{told:List (List (List (List Nat)))}{acc obj:List (List Bool)}(hm:(z.S.getD d []).length=m d)(hR:Rr w.S.P n t m z.Rows)(hd:d<n)(hk:k<m d)
  (a2:∀i,i<n→Hn w i→(ac acc d i=true↔Wr w.S.P n z i d ans)) (a3:Td w.S.P n t m acc told) (a5:∀i,i<n→Hn w i→(ac obj d i=true↔Ob w.S.P n z.Rows told acc i d))
  (hfl:∀i,i<n→Hn w i→∀j,j<n→Hn w j→pB w.S.P (((z.Rows.getD j []).getD d []).getD k []) (i+1)≠pB w.S.P (((z.Rows.getD i []).getD d []).getD k []) (j+1)→((z.aO.getD i []).getD d []).getD j 0≠0) (hdq:dq n t acc obj d=false) {f:Nat→List Nat}
  (hf:∀i,i<n→f i=if ac acc d i then((told.getD d []).getD i []).getD k [] else((z.Rows.getD i []).getD d []).getD k []) :
  (∀i j,i<n→Hn w i→j<n→Hn w j→pB w.S.P (f i) (j+1)=pB w.S.P (f j) (i+1))∧∀y,∃h:List Nat,Lt w.S.P h∧h.length≤t+1∧∀i,i<n→Hn w i→bZ (P w.S.P (f i)) y=bZ (P w.S.P h) (o w.S.P (i+1)):=by
 have hp:=s.sup
 have hlt:=hp.lt
 have h13:=s.n13
 have h3:=s.t3
 have hc1:cnt (ag acc obj d) n≤t:=by
  have:=of_decide_eq_false hdq
  omega
 have hc2:=Iw s
 have hfw:∀i,i<n→(f i).length=t+1∧Lt w.S.P (f i):=λi hi=>by
  rw[hf i hi]
  split
  ·rename_i h;exact a3.w d hd i hi h k hk
  ·exact hR.w i hi d hd k hk
 have hc3:=NP (f:=λi=>decide (((i+1:Nat):Int)∉w.af)&&!ag acc obj d i) (g:=ag acc obj d) (h:=λi=>decide (((i+1:Nat):Int)∈w.af)) (n:=n) (λi _=>by
  by_cases g:((i+1:Nat):Int)∈w.af
  ·exact .inr (.inr (decide_eq_true g))
  ·cases h:ag acc obj d i
   ·left;rw[decide_eq_true g];rfl
   ·exact .inr (.inl rfl))
 generalize hG:(List.range n).filter (λi=>decide (((i+1:Nat):Int)∉w.af)&&!ag acc obj d i)=G
 have hGl:t+1≤G.length:=by
  have:cnt (λi=>decide (((i+1:Nat):Int)∉w.af)&&!ag acc obj d i) n=G.length:=by rw[←hG];rfl
  omega
 have hGg:∀g,g<t+1→G.getD g 0<n∧Hn w (G.getD g 0)∧ac acc d (G.getD g 0)=false∧ac obj d (G.getD g 0)=false:=λg hg=>by
  have h1:=getD_in (d:=0) (show g<G.length by omega)
  rw[←hG] at h1 ⊢
  obtain⟨h2,h4⟩:=List.mem_filter.1 h1
  rw[Bool.and_eq_true] at h4
  obtain⟨h5,h6⟩:=h4
  have h6:ag acc obj d (((List.range n).filter (λi=>decide (((i+1:Nat):Int)∉w.af)&&!ag acc obj d i)).getD g 0)=false:=by
   cases hh:ag acc obj d (((List.range n).filter (λi=>decide (((i+1:Nat):Int)∉w.af)&&!ag acc obj d i)).getD g 0)
   ·rfl
   ·rw[hh] at h6;cases h6
  unfold ag at h6
  rw[Bool.or_eq_false_iff] at h6
  exact⟨by simpa using h2,.inl (of_decide_eq_true h5),h6.1,h6.2⟩
 have hGp:G.Pairwise (· < ·):=by rw[←hG];exact List.Pairwise.sublist List.filter_sublist List.pairwise_lt_range
 have hGn:∀g h,g<t+1→h<t+1→g≠h→G.getD g 0≠G.getD h 0:=λg h hg hh hne=>by
  rw[List.getD_eq_getElem?_getD,List.getD_eq_getElem?_getD,List.getElem?_eq_getElem (show g<G.length by omega),List.getElem?_eq_getElem (show h<G.length by omega)]
  show G[g]≠G[h]
  rcases Nat.lt_or_gt_of_ne hne with c | c
  ·have:=List.pairwise_iff_getElem.1 hGp g h (by omega) (by omega) c;omega
  ·have:=List.pairwise_iff_getElem.1 hGp h g (by omega) (by omega) c;omega
 have key:∀i,i<n→Hn w i→∀g,g<t+1→pB w.S.P (f i) (G.getD g 0+1)=pB w.S.P (f (G.getD g 0)) (i+1):=λi hi hhi g hg=>by
  obtain⟨c1,c2,c3,c4⟩:=hGg g hg
  generalize G.getD g 0=y at c1 c2 c3 c4
  rw[hf y c1,c3,if_neg (by decide),hf i hi]
  cases hb:ac acc d i
  ·rw[if_neg (by decide)]
   apply Classical.byContradiction
   intro hne
   have h1:=hfl y c1 c2 i hi hhi hne
   obtain⟨q,hq,hx⟩:=LK (n:=n) (k:=n) c1 hi h1
   have w1:¬Wr w.S.P n z y d ans:=λh=>by rw[(a2 y c1 c2).2 h] at c3;cases c3
   have w2:¬Wr w.S.P n z i d ans:=λh=>by rw[(a2 i hi hhi).2 h] at hb;cases hb
   obtain⟨r1,hr1,e1⟩:=Oh (x:=(pS z.aO n d n).getD q ⟨0,0⟩) (i:=y) (by rw[hx])
   obtain⟨r2,hr2,e2⟩:=Oi (x:=(pS z.aO n d n).getD q ⟨0,0⟩) (i:=i) (by rw[hx])
   have v1:pB w.S.P (((z.Rows.getD y []).getD d []).getD k []) (i+1)=(ans.getD q []).getD k 0:=by
    apply Classical.byContradiction
    intro hh
    refine w1 ⟨q,hq,r1,hr1,k,by rw[hm];exact hk,?_⟩
    rw[e1,hx];exact hh
   have v2:pB w.S.P (((z.Rows.getD i []).getD d []).getD k []) (y+1)=(ans.getD q []).getD k 0:=by
    apply Classical.byContradiction
    intro hh
    refine w2 ⟨q,hq,r2,hr2,k,by rw[hm];exact hk,?_⟩
    rw[e2,hx];exact hh
   exact hne (by rw[v1,v2])
  ·rw[if_pos rfl]
   apply Classical.byContradiction
   intro hne
   have:ac obj d y=true:=(a5 y c1 c2).2 ⟨c3,i,hi,k,by rw[a3.many d hd i hi hb];exact hk,hne⟩
   rw[this] at c4;cases c4
 obtain⟨j1,jj⟩:=N5 hp (t:=t) (H:=λi=>i<n∧Hn w i) (f:=f) (X:=λi=>o w.S.P (i+1)) (G:=λg=>G.getD g 0) (λg hg=>⟨(hGg g hg).1,(hGg g hg).2.1⟩) (λg h hg hh hne e=>by
   have h1:=(hGg g hg).1
   have h2:=(hGg h hh).1
   have:=pZ (p:=w.S.P) (by omega) (by omega) e
   exact hGn g h hg hh hne (by omega)) (λi hi=>by rw[(hfw i hi.1).1];exact Nat.le_refl _) (λi hi g hg=>by
   have h1:=(hGg g hg).1
   have e1:=(jq hp (hfw i hi.1).2 (show G.getD g 0+1<w.S.P by omega) (by rw[(hfw i hi.1).1];omega)).2.2
   have e2:=(jq hp (hfw _ h1).2 (show i+1<w.S.P by omega) (by rw[(hfw _ h1).1];omega)).2.2
   rw[←e1,←e2,key i hi.1 hi.2 g hg])
 refine⟨λi j hi hhi hj hhj=>?_,λy=>by
  obtain⟨h,j2,j3,j4⟩:=jj y
  exact⟨h,j2,j3,λi hi hhi=>j4 i ⟨hi,hhi⟩⟩⟩
 obtain⟨_,p1,e1⟩:=jq hp (hfw i hi).2 (show j+1<w.S.P by omega) (by rw[(hfw i hi).1];omega)
 obtain⟨_,p2,e2⟩:=jq hp (hfw j hj).2 (show i+1<w.S.P by omega) (by rw[(hfw j hj).1];omega)
 exact pZ p1 p2 (by rw[e1,e2];exact j1 i j ⟨hi,hhi⟩ ⟨hj,hhj⟩)
/-- all that has been said -/
def Trace(w:ae)(tapes:List (List Nat))(n t:Nat)(round:Int)(v0:List (List am))(q:List (List (List Nat)))(res:aT)(views:List (List am)):Prop:=∃S R F v1 A0 A1 o0 h2 fl ans told acc obj h3 h4 h5 h6 b1 b2,(∀d,d<n→S.getD d []=Sm q tapes t d)∧Ss w.S.P n t S∧Rr w.S.P n t (λd=>(q.getD d []).length) R ∧
 (∀d,d<n→Hn w d→∀i,i<n→∀k,k<(q.getD d []).length→((R.getD i []).getD d []).getD k []=Rw w.S.P ((Sm q tapes t d).getD k []) (i+1))∧(∀d,d<n→Hn w d→∀i,i<n→Hn w i→ac acc d i=false) ∧
 QE w n t round (λd=>(q.getD d []).length) S R F v0 v1 A0 A1 o0 h2 fl∧QF w n t ⟨S,R,F⟩ (round+1+1+1) v1 views ans told acc obj h3 h4 h5 h6 b1 b2∧Fl n F∧Td w.S.P n t (λd=>(S.getD d []).length) acc told∧v1.length=n∧views.length=n ∧
 res=⟨(List.range n).map λi=>(List.range n).map λd=>BF t (S.getD d []).length ((R.getD i []).getD d []) ((told.getD d []).getD i []) (dq n t acc obj d) (ac acc d i),(List.range n).map (dq n t acc obj)⟩
/-- sharing -/
theorem HE{net:ai}[NeZero net.zw.S.P]{n t B:Nat}{q:List (List (List Nat))}(s:Sc net.zw n t)(ht:t=1∨t=2)(hn:n≤7){tp:Nat→List Nat}{ps:Nat→Nat}(Q:Qs net.zw.S.P n t q (rem n tp ps))(hts:Ci n net.ak tp ps)(hv:VB n B net.av)(hB:B≤350)(hr:0≤net.ah∧net.ah≤800) :
  ∃res views T,ut net q=some (res,net.ah+7,views,T)∧Ci n T tp (λi=>ps i+(q.getD i []).length*(t*(t+1) / 2))∧Pg net.zw (rem n tp ps) q n t res∧VB n (B+7*n) views∧Com net.zw q n t res∧Trace net.zw (rem n tp ps) n t net.ah net.av q res views:=by
 obtain⟨S,R,F,v1,T,e1,hT,hS,hSm,hR,hRw,hF,hv1,hz1,hfl,A0,A1,o0,h2,fl,hT1⟩:=FS s ht hn Q hts hv (by omega) (by omega)
 obtain⟨w,round,v0,T0⟩:=net
 simp only at *
 have hp:=s.sup
 have hlt:=hp.lt
 have ht2:t≤2:=by omega
 have hm:∀d,d<n→(q.getD d []).length=(S.getD d []).length:=λd hd=>by rw[hSm d hd,sI]
 obtain⟨ans,told,acc,obj,v2,e2,a1,a2,a3,a4,a5,a6,h3,h4,h5,h6,b1,b2,hT2⟩:=Bi (net:=⟨w,round+1+1+1,v1,T⟩) (z:=⟨S,R,F⟩) s hn ht2 hS (FB hm hR) hF hv1 (by omega) (by show 0≤round+1+1+1∧round+1+1+1≤900;omega)
 simp only at e2 a1 a2 a3 a4 a5
 have hgen:∀i,i<n→∀d,d<n→(((List.range n).map λi=>(List.range n).map λd=>BF t (S.getD d []).length ((R.getD i []).getD d []) ((told.getD d []).getD i []) (dq n t acc obj d) (ac acc d i)).getD i []).getD d []=BF t (S.getD d []).length ((R.getD i []).getD d []) ((told.getD d []).getD i []) (dq n t acc obj d) (ac acc d i):=λi hi d hd=>by rw[bR hi,bR hd]
 have sym:=λ(d:Nat) (hd:d<n) (k:Nat) (hk:k<(q.getD d []).length) (x y:Nat) (hx:x<w.S.P) (hy:y<w.S.P)=>xP hp (xZ (p:=w.S.P) (by omega) ht Q hd hk).2.1 (xZ (p:=w.S.P) (by omega) ht Q hd hk).2.2 (by omega) hx hy
 have hac:∀d,d<n→Hn w d→∀i,i<n→Hn w i→ac acc d i=false:=λd hd hh i hi hi2=>by
  cases h:ac acc d i
  ·rfl
  ·obtain⟨c,hc,r,hr,k,hk,hne⟩:=(a2 i hi hi2 d hd).1 h
   simp only at hc hr hk hne
   have hk2:k<(q.getD d []).length:=by rw[hm d hd];exact hk
   rw[a1 d hd hh,HB hc hk,hRw d hd hh i hi k hk2,hSm d hd] at hne
   obtain⟨e0,e1,h0,h1,_,hx⟩:=z8 (getD_in (d:=(⟨0,0⟩:cg)) hc)
   rw[hx] at hr hne
   exfalso
   apply hne
   unfold NA
   simp only[Int.toNat_natCast]
   rcases G4 hr with ⟨g1,g2⟩ | ⟨g1,g2⟩
   ·simp only at g1 g2
    have:e0=i:=by omega
    rw[g1,this,Int.toNat_natCast]
   ·simp only at g1 g2
    have:e1=i:=by omega
    rw[g1,this,Int.toNat_natCast]
    exact sym d hd k hk2 _ _ (by omega) (by omega)
 have hob:∀d,d<n→Hn w d→∀i,i<n→Hn w i→ac obj d i=false:=λd hd hh i hi hi2=>by
  cases h:ac obj d i
  ·rfl
  ·obtain⟨_,a,ha,k,hk,hne⟩:=(a5 i hi hi2 d hd).1 h
   have hba:ac acc d a=true:=by
    cases h2:ac acc d a
    ·rw[a3.no d hd a ha h2] at hk;simp at hk
    ·rfl
   have hk1:k<(S.getD d []).length:=by rw[a3.many d hd a ha hba] at hk;exact hk
   have hk2:k<(q.getD d []).length:=by rw[hm d hd];exact hk1
   rw[a4 d hd hh a ha hba k hk1,hRw d hd hh i hi k hk2,hSm d hd] at hne
   exact absurd (sym d hd k hk2 _ _ (by omega) (by omega)) hne
 have hdq:∀d,d<n→Hn w d→dq n t acc obj d=false:=λd hd hh=>by
  have:=Iv s (f:=ag acc obj d) (λi hi hi2=>by unfold ag;rw[hac d hd hh i hi hi2,hob d hd hh i hi hi2];rfl)
  exact decide_eq_false (by omega)
 refine⟨⟨(List.range n).map λi=>(List.range n).map λd=>BF t (S.getD d []).length ((R.getD i []).getD d []) ((told.getD d []).getD i []) (dq n t acc obj d) (ac acc d i),(List.range n).map (dq n t acc obj)⟩,v2,T,?_,hT,⟨by simp,by simp,λi hi=>by rw[bR hi];simp,λi hi d hd=>?_,λi hi d hd k hk=>?_,λd hd hh=>?_,λd hd hh i hi hi2 k hk=>?_⟩,⟨a6.1,λj hj=>Nat.le_trans (a6.2 j hj) (by omega)⟩,?_,⟨S,R,F,v1,A0,A1,o0,h2,fl,_,told,acc,obj,h3,h4,h5,h6,b1,b2,hSm,hS,hR,hRw,hac,hT1,hT2,hF,a3,hv1.1,a6.1,rfl⟩⟩
 ·unfold ut
  rw[e1,bS]
  simp only
  rw[e2,bS]
  have:round+1+1+1+4=round+7:=by omega
  rw[this]
 ·rw[hgen i hi d hd]
  unfold BF
  split
  ·rw[List.length_replicate,hm d hd]
  ·split
   ·rename_i h;rw[a3.many d hd i hi h,hm d hd]
   ·exact hR.many i hi d hd
 ·rw[hgen i hi d hd]
  have hk1:k<(S.getD d []).length:=by rw[←hm d hd];exact hk
  unfold BF
  split
  ·rw[List.getD_eq_getElem?_getD,List.getElem?_replicate,if_pos hk1]
   refine⟨by simp,λc hc=>?_⟩
   show(List.replicate (t+1) 0).getD c 0<_
   rw[List.getD_eq_getElem?_getD,List.getElem?_replicate]
   split
   ·exact hp.pos
   ·exact hp.pos
  ·split
   ·rename_i h;exact a3.w d hd i hi h k hk1
   ·exact hR.w i hi d hd k hk
 ·show((List.range n).map (dq n t acc obj)).getD d false=false
  rw[bR hd];exact hdq d hd hh
 ·rw[hgen i hi d hd,hdq d hd hh,hac d hd hh i hi hi2]
  exact hRw d hd hh i hi k hk
 ·have hall:∀d,d<n→∀k,k<(q.getD d []).length→(dq n t acc obj d=true∧∀i,i<n→(BF t (S.getD d []).length ((R.getD i []).getD d []) ((told.getD d []).getD i []) (dq n t acc obj d) (ac acc d i)).getD k []=List.replicate (t+1) 0)∨(dq n t acc obj d=false∧∀i,i<n→(BF t (S.getD d []).length ((R.getD i []).getD d []) ((told.getD d []).getD i []) (dq n t acc obj d) (ac acc d i)).getD k []=if ac acc d i then((told.getD d []).getD i []).getD k [] else((R.getD i []).getD d []).getD k []):=λd hd k hk=>by
   have hk1:k<(S.getD d []).length:=by rw[←hm d hd];exact hk
   cases hq:dq n t acc obj d
   ·refine .inr ⟨rfl,λi hi=>?_⟩
    unfold BF
    rw[if_neg (by decide)]
    split <;> rfl
   ·refine .inl ⟨rfl,λi hi=>?_⟩
    unfold BF
    rw[if_pos rfl,List.getD_eq_getElem?_getD,List.getElem?_replicate,if_pos hk1];rfl
  have hj:=λ(d:Nat) (hd:d<n) (k:Nat) (hk:k<(q.getD d []).length) (hq:dq n t acc obj d=false) (f:Nat→List Nat) (hf:∀i,i<n→f i=if ac acc d i then((told.getD d []).getD i []).getD k [] else((R.getD i []).getD d []).getD k []) =>
   CI (z:=⟨S,R,F⟩) (m:=λd=>(q.getD d []).length) (obj:=obj) s ht2 (by show(S.getD d []).length=_;exact(hm d hd).symm) hR hd hk (λi hi hhi=>a2 i hi hhi d hd) ⟨a3.len,a3.row,a3.no,λd hd a ha h=>by rw[a3.many d hd a ha h,hm d hd],λd hd a ha h k hk=>a3.w d hd a ha h k (by show k<(S.getD d []).length;rw[←hm d hd];exact hk)⟩ (λi hi hhi=>a5 i hi hhi d hd) (λi hi hhi j hj hhj hne=>hfl i hi hhi j hj hhj d hd k hk hne) hq hf
  refine⟨λd hd hq i hi k hk=>?_,λd hd k hk i hi hhi j hj' hhj=>?_,λd hd k hk=>?_⟩
  ·have hq:dq n t acc obj d=true:=by rw[←hq];show _=((List.range n).map (dq n t acc obj)).getD d false;rw[bR hd]
   rw[hgen i hi d hd]
   rcases hall d hd k hk with ⟨_,h⟩ | ⟨h,_⟩
   ·exact h i hi
   ·rw[h] at hq;cases hq
  ·rw[hgen i hi d hd,hgen j hj' d hd]
   rcases hall d hd k hk with ⟨_,h⟩ | ⟨hq,h⟩
   ·rw[h i hi,h j hj']
    have hL:Lt w.S.P (List.replicate (t+1) 0):=λc hc=>by
     rw[List.getD_eq_getElem?_getD,List.getElem?_replicate]
     split <;> exact hp.pos
    obtain⟨_,p1,e1⟩:=jq hp hL (show j+1<w.S.P by omega) (by simp;omega)
    obtain⟨_,p2,e2⟩:=jq hp hL (show i+1<w.S.P by omega) (by simp;omega)
    exact pZ p1 p2 (by rw[e1,e2,rE,rE])
   ·exact(hj d hd k hk hq _ h).1 i j hi hhi hj' hhj
  ·intro y
   rcases hall d hd k hk with ⟨_,h⟩ | ⟨hq,h⟩
   ·refine⟨[],λi hi=>by simp at hi,by simp,λi hi _=>?_⟩
    rw[hgen i hi d hd,h i hi,rE];rfl
   ·obtain⟨g,g1,g2,g3⟩:=(hj d hd k hk hq _ h).2 y
    refine⟨g,g1,g2,λi hi hhi=>?_⟩
    rw[hgen i hi d hd]
    exact g3 i hi hhi
end Pu
