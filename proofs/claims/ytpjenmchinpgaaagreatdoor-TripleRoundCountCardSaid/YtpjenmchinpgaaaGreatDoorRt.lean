/- Plain laws of chapter 22: what Prove returns. -/
import Derived.Test.YtpjenmchinpgaaaGreatDoorRf
set_option linter.unusedVariables false
namespace Pu
open Gw Gl Sp
theorem Qm{S:Type}{body:Nat→S→Option S}{a b:S}(h0:body 0 a=some b):cZ body 1 0 a=some b:=by
 unfold cZ
 rw[h0];rfl
theorem OA{S:Type}{body:Nat→S→Option S}{a b c:S}(h0:body 0 a=some b)(h1:body 1 b=some c):cZ body 2 0 a=some c:=by
 unfold cZ
 rw[h0]
 show cZ body 1 1 b=_
 unfold cZ
 rw[h1];rfl
section
variable {p:Nat}[NeZero p]
theorem mulN{a b:Nat}(h:a*b<9223372036854775808):jX ((a:Nat):Int) ((b:Nat):Int)=some ((a*b:Nat):Int):=by
 unfold jX
 rw[←Int.natCast_mul]
 exact pR (by omega) (by omega)
theorem wO(hp:fQ p){t q:Nat}(ht:t≤3)(hqt:q<t){r left:List Nat}{d:List (List Nat)}(hr:Lt p r)(hrl:r.length=t*t)(hl:left.length=2*t+1)(hll:Lt p left)(hd:d.length=t) :
  ∃left' f,dO p ((t:Nat):Int) r ((q+1:Nat):Int) left d=some (left',d.set q f)∧left'.length=2*t+1∧Lt p left'∧f.length=t+1∧Lt p f∧(∀i,i<t→f.getD i 0=r.getD (q*t+i) 0)∧f.getD t 0=left.getD (q+1+t) 0 ∧
   ∀i,o p (left'.getD i 0)=if q+1≤i∧i≤q+1+t then o p (left.getD i 0)-o p (f.getD (i-(q+1)) 0) else o p (left.getD i 0):=by
 have hlt0:=hp.lt
 have h1:q*t+t≤t*t:=by rw[←Nat.succ_mul];exact Nat.mul_le_mul_right t hqt
 have htt:t*t≤9:=Nat.le_trans (Nat.mul_le_mul ht ht) (by omega)
 have e1:((t:Nat):Int)+1=((t+1:Nat):Int):=by omega
 have e2:((q+1:Nat):Int)-1=((q:Nat):Int):=by omega
 have e4:(q+1)*t=q*t+t:=Nat.succ_mul ..
 have e5:((q+1:Nat):Int)+((t:Nat):Int)=((q+1+t:Nat):Int):=by omega
 have e6:(((t+1:Nat):Int)).toNat=t+1:=rfl
 have hl8:((r.drop (q*t)).take t).length=t:=by rw[List.length_take,List.length_drop];omega
 have hg8:∀i,i<t→((r.drop (q*t)).take t).getD i 0=r.getD (q*t+i) 0:=λi hi=>by
  rw[List.getD_eq_getElem?_getD,List.getElem?_take,if_pos hi,List.getElem?_drop,←List.getD_eq_getElem?_getD]
 generalize hl8':(r.drop (q*t)).take t=l8 at *
 have hc:(jd (List.replicate (t+1) 0) l8).length=t+1:=(ug (n:=t+1) (i:=0) (f:=l8) (by omega)).1
 have hcg:∀i,(jd (List.replicate (t+1) 0) l8).getD i 0=l8.getD i 0:=λi=>(ug (n:=t+1) (i:=i) (f:=l8) (by omega)).2
 have hfl:((jd (List.replicate (t+1) 0) l8).set t (left.getD (q+1+t) 0)).length=t+1:=by rw[List.length_set];exact hc
 have hf1:∀i,i<t→((jd (List.replicate (t+1) 0) l8).set t (left.getD (q+1+t) 0)).getD i 0=r.getD (q*t+i) 0:=λi hi=>by
  rw[aN (by omega),if_neg (by omega),hcg,hg8 i hi]
 have hf2:((jd (List.replicate (t+1) 0) l8).set t (left.getD (q+1+t) 0)).getD t 0=left.getD (q+1+t) 0:=by
  rw[aN (by omega),if_pos rfl]
 unfold dO
 rw[bi (by omega) (by omega),bS,e1,ci (by omega) (by omega) (by omega) (by omega),bS,e6,cb (by omega) (by omega),bS,e2,mulN (by omega),bS,mulN (by omega),bS,e4,eG (by omega) (by omega) (by omega),bS,Int.toNat_natCast,Int.toNat_natCast,Nat.add_sub_cancel_left,hl8',bi (by omega) (by omega),bS,e5,aS 0 (by omega) (by omega),bS,Int.toNat_natCast,aS 0 (by omega) (by omega),bS,bS,Int.toNat_natCast,Nat.sub_zero,hfl]
 generalize ((jd (List.replicate (t+1) 0) l8).set t (left.getD (q+1+t) 0))=f at *
 have hfp:Lt p f:=λi hi=>by
  by_cases g:i<t
  ·rw[hf1 i g];exact hr.get hp.pos _
  ·have:i=t:=by omega
   subst this;rw[hf2];exact hll.get hp.pos _
 obtain⟨l,el,l1,l2,l3⟩:=bm (body:=λk2 (st:(List Nat))=>kB p ((q+1:Nat):Int) f k2 st) (λk l=>l.length=2*t+1∧Lt p l∧∀i,o p (l.getD i 0)=if q+1≤i∧i<q+1+k then o p (left.getD i 0)-o p (f.getD (i-(q+1)) 0) else o p (left.getD i 0)) (rem:=t+1) (k:=0) (s:=left)
  ⟨hl,hll,λi=>by rw[if_neg (by omega)]⟩ (λk l _ hk ⟨l1,l2,l3⟩=>by
   have e7:((q+1:Nat):Int)+((k:Nat):Int)=((q+1+k:Nat):Int):=by omega
   unfold kB
   rw[ix 0 (by omega),bS,bi (by omega) (by omega),bS,e7,aS 0 (by omega) (by omega),bS,Int.toNat_natCast,yJ hp (l2.get hp.pos _) (hfp.get hp.pos _),bS,bS]
   refine⟨_,rfl,by rw[List.length_set];exact l1,λi hi=>?_,λi=>?_⟩
   ·rw[aN (by omega)]
    split
    ·exact Nat.mod_lt _ hp.pos
    ·exact l2.get hp.pos i
   ·rw[aN (by omega)]
    by_cases g:q+1+k=i
    ·subst g
     have h3:=l3 (q+1+k)
     rw[if_neg (by omega)] at h3
     rw[if_pos rfl,if_pos (by omega),yy (hfp.get hp.pos _),h3,Nat.add_sub_cancel_left]
    ·rw[if_neg g,l3 i]
     by_cases g2:q+1≤i∧i<q+1+k
     ·rw[if_pos g2,if_pos (by omega)]
     ·rw[if_neg g2,if_neg (by omega)])
 rw[Nat.zero_add] at l3
 rw[el,bS,aS [] (by omega) (by omega),bS,bS,Int.toNat_natCast]
 refine⟨l,f,rfl,l1,l2,hfl,hfp,hf1,hf2,λi=>?_⟩
 rw[l3 i]
 by_cases g:q+1≤i∧i<q+1+(t+1)
 ·rw[if_pos g,if_pos (by omega)]
 ·rw[if_neg g,if_neg (by omega)]
/-- the proof of a product -/
structure Pf(p:Nat)[NeZero p](t:Nat)(a b:List Nat)(D:Nat→List Nat)(c:List Nat):Prop where
 dw:∀k,k<t→(D k).length=t+1∧Lt p (D k)
 cl:c.length=t+1
 cw:Lt p c
 eq:∀x,bZ (P p a) x*bZ (P p b) x=sm t (λk=>x ^ (k+1)*bZ (P p (D k)) x)+bZ (P p c) x
theorem Hk(hp:fQ p){t:Nat}(ht:t=1∨t=2){a b r:List Nat}(ha:Lt p a)(hb:Lt p b)(hr:Lt p r)(hal:a.length=t+1)(hbl:b.length=t+1)(hrl:r.length=t*t) :
  ∃D c,fY p ((t:Nat):Int) a b r=some (D,c)∧D.length=t∧Pf p t a b (λk=>D.getD k []) c:=by
 have hlt:=hp.lt
 obtain⟨m,em,m1,m2,m3⟩:=DU hp ha hb (by omega) (by omega)
 have hml:m.length≤2*t+1:=by omega
 have hc0:(jd (List.replicate (2*t+1) 0) m).length=2*t+1:=(ug (n:=2*t+1) (i:=0) (f:=m) hml).1
 have hcg:∀i,(jd (List.replicate (2*t+1) 0) m).getD i 0=m.getD i 0:=λi=>(ug (n:=2*t+1) (i:=i) (f:=m) hml).2
 have hcp:Lt p (jd (List.replicate (2*t+1) 0) m):=λi _=>by rw[hcg];exact m1.get hp.pos i
 have hce:∀x,bZ (P p (jd (List.replicate (2*t+1) 0) m)) x=bZ (P p a) x*bZ (P p b) x:=λx=>by rw[vu hcg,m3]
 have e1:(2:Int)*((t:Nat):Int)=((2*t:Nat):Int):=by omega
 have e2:((2*t:Nat):Int)+1=((2*t+1:Nat):Int):=by omega
 have e3:((t:Nat):Int)+1=((t+1:Nat):Int):=by omega
 have e4:(((2*t+1:Nat):Int)).toNat=2*t+1:=rfl
 have e5:(((t:Nat):Int)).toNat=t:=rfl
 unfold fY nm
 rw[iy (by omega) (by omega),bS,e1,bi (by omega) (by omega),bS,e2,ci (by omega) (by omega) (by omega) (by omega),bS,e4,em,bS,ci (by omega) (by omega) (by omega) (by omega),bS,e5,bS]
 unfold NV
 rw[if_pos (by omega),e5]
 generalize hL:jd (List.replicate (2*t+1) 0) m=L0 at *
 rcases ht with rfl | rfl
 ·obtain⟨L1,f,s1,s2,s3,s4,s5,s6,s7,s8⟩:=wO hp (t:=1) (q:=0) (by omega) (by omega) hr hrl hc0 hcp (d:=[[]]) rfl
  have hloop:cZ (λj (st:(List Nat)×(List (List Nat)))=>dO p ((1:Nat):Int) r (((1:Nat):Int)-(j:Int)) st.1 st.2) 1 0 (L0,List.replicate 1 [])=some (L1,[f]):=by
   refine Qm ?_
   have x1:((1:Nat):Int)-((0:Nat):Int)=((0+1:Nat):Int):=by omega
   simp only
   rw[x1];exact s1
  rw[hloop,bS]
  simp only
  rw[bi (by omega) (by omega),bS,e3,eG (by omega) (by omega) (by omega),bS]
  have hcut:((L1.drop (0:Int).toNat).take (((1+1:Nat):Int).toNat-(0:Int).toNat))=L1.take 2:=rfl
  rw[hcut]
  have hg:∀i,(L1.take 2).getD i 0=if i<2 then L1.getD i 0 else 0:=λi=>by
   rw[List.getD_eq_getElem?_getD,List.getElem?_take]
   split
   ·rw[←List.getD_eq_getElem?_getD]
   ·rfl
  refine⟨_,_,rfl,rfl,λk hk=>?_,by rw[List.length_take,s2];rfl,λi hi=>?_,λx=>?_⟩
  ·have:k=0:=by omega
   subst this;exact⟨s4,s5⟩
  ·rw[hg];split
   ·exact s3.get hp.pos i
   ·exact hp.pos
  ·rw[←hce x,mK (n:=3) (by omega),mK (n:=2) (f:=L1.take 2) (by rw[List.length_take];omega)]
   simp only[sm]
   rw[show([f].getD 0 [])=f from rfl,mK (n:=2) (f:=f) (by omega)]
   simp only[sm,hg]
   have a0:=s8 0
   have a1:=s8 1
   have a2:=s8 2
   rw[if_neg (by omega)] at a0
   rw[if_pos (by omega)] at a1 a2
   rw[if_pos (by omega),if_pos (by omega),a0,a1]
   have b1:f.getD 1 0=L0.getD 2 0:=s7
   rw[b1]
   show _=_+x ^ 1*(_+o p (f.getD 0 0)*x ^ 0+o p (L0.getD 2 0)*x ^ 1)+(_+_+(o p (L0.getD 1 0)-o p (f.getD 0 0))*x ^ 1)
   grind
 ·obtain⟨L1,f,s1,s2,s3,s4,s5,s6,s7,s8⟩:=wO hp (t:=2) (q:=1) (by omega) (by omega) hr hrl hc0 hcp (d:=[[],[]]) rfl
  obtain⟨L2,g,t1,t2,t3,t4,t5,t6,t7,t8⟩:=wO hp (t:=2) (q:=0) (by omega) (by omega) hr hrl s2 s3 (d:=[[],f]) rfl
  have hloop:cZ (λj (st:(List Nat)×(List (List Nat)))=>dO p ((2:Nat):Int) r (((2:Nat):Int)-(j:Int)) st.1 st.2) 2 0 (L0,List.replicate 2 [])=some (L2,[g,f]):=by
   have x1:((2:Nat):Int)-((0:Nat):Int)=((1+1:Nat):Int):=by omega
   have x2:((2:Nat):Int)-((1:Nat):Int)=((0+1:Nat):Int):=by omega
   refine OA (b:=(L1,[[],f])) ?_ ?_
   ·simp only
    rw[x1];exact s1
   ·simp only
    rw[x2];exact t1
  rw[hloop,bS]
  simp only
  rw[bi (by omega) (by omega),bS,e3,eG (by omega) (by omega) (by omega),bS]
  have hcut:((L2.drop (0:Int).toNat).take (((2+1:Nat):Int).toNat-(0:Int).toNat))=L2.take 3:=rfl
  rw[hcut]
  have hg:∀i,(L2.take 3).getD i 0=if i<3 then L2.getD i 0 else 0:=λi=>by
   rw[List.getD_eq_getElem?_getD,List.getElem?_take]
   split
   ·rw[←List.getD_eq_getElem?_getD]
   ·rfl
  refine⟨_,_,rfl,rfl,λk hk=>?_,by rw[List.length_take,t2];rfl,λi hi=>?_,λx=>?_⟩
  ·have:k=0∨k=1:=by omega
   rcases this with rfl | rfl
   ·exact⟨t4,t5⟩
   ·exact⟨s4,s5⟩
  ·rw[hg];split
   ·exact t3.get hp.pos i
   ·exact hp.pos
  ·rw[←hce x,mK (n:=5) (by omega),mK (n:=3) (f:=L2.take 3) (by rw[List.length_take];omega)]
   simp only[sm]
   rw[show([g,f].getD 0 [])=g from rfl,show([g,f].getD 1 [])=f from rfl,mK (n:=3) (f:=f) (by omega),mK (n:=3) (f:=g) (by omega)]
   simp only[sm,hg]
   have a0:=s8 0
   have a1:=s8 1
   have a2:=s8 2
   have a3:=s8 3
   have b0:=t8 0
   have b1:=t8 1
   have b2:=t8 2
   rw[if_neg (by omega)] at a0 a1 b0
   rw[if_pos (by omega)] at a2 a3 b1 b2
   rw[if_pos (by omega),if_pos (by omega),if_pos (by omega),b0,b1,b2,a0,a1,a2]
   have c1:o p (g.getD 2 0)=o p (L0.getD 3 0)-o p (f.getD 1 0):=by
    have h7:g.getD 2 0=L1.getD 3 0:=t7
    rw[h7,a3]
   have c2:f.getD 2 0=L0.getD 4 0:=s7
   rw[c1,c2]
   show _=_+x ^ 1*_+x ^ 2*(_+o p (f.getD 0 0)*x ^ 0+_+_)+(_+_+(o p (L0.getD 1 0)-o p (g.getD 0 0))*x ^ 1+(o p (L0.getD 2 0)-o p (f.getD 0 0)-o p (g.getD 1 0))*x ^ 2)
   grind
end
end Pu

/- Plain laws of chapter 22: drawing. -/
set_option linter.unusedVariables false
namespace Pu
open Gw Gl Sp
def hH(t:Nat):Nat:=2*(t+1)+t*t
def hA(l:List Nat)(a t k:Nat):List Nat:=(l.drop (a+k*hH t)).take (t+1)
def hB(l:List Nat)(a t k:Nat):List Nat:=(l.drop (a+k*hH t+(t+1))).take (t+1)
def OE(x:Option (List (List Nat)×List Nat)):List Nat:=match x with
 | some y=>y.2
 | none=>[]
/-- the third number's polynomial -/
def hC(p:Nat)(l:List Nat)(a t k:Nat):List Nat:=OE (fY p ((t:Nat):Int) (hA l a t k) (hB l a t k) ((l.drop (a+k*hH t+(2*t+2))).take (t*t)))
theorem N2{p:Nat}{l:List Nat}{a t k:Nat}{D:List (List Nat)}{c:List Nat}(e:fY p ((t:Nat):Int) (hA l a t k) (hB l a t k) ((l.drop (a+k*hH t+(2*t+2))).take (t*t))=some (D,c)):hC p l a t k=c :=
 congrArg OE e
/-- what a dealer draws for m triples -/
structure Dw(p:Nat)[NeZero p](t m:Nat)(l:List Nat)(a:Nat)(R:List (List Nat)):Prop where
 len:R.length=m*(t+3)
 ww:∀q,q<m*(t+3)→(R.getD q []).length=t+1∧Lt p (R.getD q [])
 pf:∀k,k<m→R.getD (k*(t+3)) []=hA l a t k∧R.getD (k*(t+3)+1) []=hB l a t k∧Pf p t (hA l a t k) (hB l a t k) (λj=>R.getD (k*(t+3)+2+j) []) (R.getD (k*(t+3)+2+t) [])
 cv:∀k,k<m→R.getD (k*(t+3)+2+t) []=hC p l a t k
theorem pV{α:Type}{a b:List α}{i j:Nat}{d:α}(h:i=a.length+j):(a++b).getD i d=b.getD j d:=by
 subst h
 rw[List.getD_eq_getElem?_getD,List.getElem?_append_right (by omega),Nat.add_sub_cancel_left,←List.getD_eq_getElem?_getD]
theorem Il{x y z:List (List Nat)}(h:x.length+y.length+z.length≤1000):si [x,y,z]=some (x++y++z):=by
 unfold si
 have e:cZ (λk1 (st:(List (List Nat)))=>ff [x,y,z] k1 st) 3 0 []=some (x++y++z):=by
  have h0:ff [x,y,z] 0 []=some x:=by
   unfold ff
   show(cU 24 [] x >>= _)=_
   rw[aM (by simp only[List.length_nil];omega) (by simp only[List.length_nil];omega),bS,List.nil_append]
  have h1:ff [x,y,z] 1 x=some (x++y):=by
   unfold ff
   show(cU 24 x y >>= _)=_
   rw[aM (by omega) (by omega),bS]
  have h2:ff [x,y,z] 2 (x++y)=some (x++y++z):=by
   unfold ff
   show(cU 24 (x++y) z >>= _)=_
   rw[aM (by rw[List.length_append];omega) (by rw[List.length_append];omega),bS]
  unfold cZ
  rw[h0]
  show cZ (λk1 (st:(List (List Nat)))=>ff [x,y,z] k1 st) 2 1 x=_
  unfold cZ
  rw[h1]
  show cZ (λk1 (st:(List (List Nat)))=>ff [x,y,z] k1 st) 1 2 (x++y)=_
  unfold cZ
  rw[h2];rfl
 show(cZ (λk1 (st:(List (List Nat)))=>ff [x,y,z] k1 st) 3 0 [] >>= _)=_
 rw[e,bS]
theorem Lt.take{p:Nat}(hp:0<p){l:List Nat}(hl:Lt p l)(a b:Nat):Lt p ((l.drop a).take b):=λi hi=>by
 rw[List.getD_eq_getElem?_getD,List.getElem?_take]
 split
 ·rw[List.getElem?_drop,←List.getD_eq_getElem?_getD];exact hl.get hp _
 ·exact hp
theorem Ev{net:ai}{S:aF}{n t m d:Nat}{dd:aT}[NeZero S.P](hp:fQ S.P)(hT:S.T=(t:Int))(ht:t=1∨t=2)(hm:m≤2)(hn:n≤7)(hd:d<n)(hl:net.ak.length=n){l:List Nat}{a:Nat}(ha:net.ak.getD d ⟨[],0⟩=⟨l,((a:Nat):Int)⟩)(h:a+m*hH t≤l.length)(hl2:l.length≤1000)(hlp:Lt S.P l) :
  ∃R T,jg ⟨net,S,dd⟩ ((d+1:Nat):Int) ((m:Nat):Int)=some (R,T)∧T.length=n∧T.getD d ⟨[],0⟩=⟨l,((a+m*hH t:Nat):Int)⟩∧(∀j,j≠d→T.getD j ⟨[],0⟩=net.ak.getD j ⟨[],0⟩)∧Dw S.P t m l a R:=by
 have hlt:=hp.lt
 have e0:max 0 ((m:Nat):Int).toNat=m:=by omega
 have e1:((d+1:Nat):Int)-1=((d:Nat):Int):=by omega
 have hHt:hH t≤10∧2*(t+1)≤hH t∧hH t=2*(t+1)+t*t∧t*t≤4∧t*t+2*(t+1)=hH t:=by rcases ht with rfl | rfl <;> (unfold hH;omega)
 obtain⟨hH1,hH2,hH3,hH4,hH5⟩:=hHt
 have ht2:t≤2:=by omega
 unfold jg
 simp only
 rw[e0,bJ (by omega),bS,Nat.sub_zero]
 obtain⟨r,er,r1,r2,r3,r4⟩:=bm (body:=λk1 (st:(List aL)×(List (List Nat)))=>fq ⟨net,S,dd⟩ ((d+1:Nat):Int) k1 st.1 st.2)
  (λk st=>st.1.length=n∧st.1.getD d ⟨[],0⟩=⟨l,((a+k*hH t:Nat):Int)⟩∧(∀j,j≠d→st.1.getD j ⟨[],0⟩=net.ak.getD j ⟨[],0⟩)∧Dw S.P t k l a st.2) (rem:=m) (k:=0) (s:=(net.ak,[]))
  ⟨hl,by rw[Nat.zero_mul];exact ha,λ_ _=>rfl,by rw[Nat.zero_mul];rfl,λq hq=>by omega,λk hk=>by omega,λk hk=>by omega⟩ (λk st _ hk ⟨r1,r2,r3,r4⟩=>by
   obtain⟨T,R⟩:=st
   simp only at r1 r2 r3 r4
   have hkm:k<m:=by omega
   have h1:k*hH t+hH t≤m*hH t:=by rw[←Nat.succ_mul];exact Nat.mul_le_mul_right (hH t) hkm
   have hRl:=r4.len
   have hk3:k*(t+3)≤10:=Nat.le_trans (Nat.mul_le_mul (show k≤2 by omega) (show t+3≤5 by omega)) (by omega)
   have c1:((t:Nat):Int)+1=((t+1:Nat):Int):=by omega
   have c2:(2:Int)*((t+1:Nat):Int)=((2*(t+1):Nat):Int):=by omega
   have c3:((2*(t+1):Nat):Int)+((t*t:Nat):Int)=((hH t:Nat):Int):=by omega
   have c4:(2:Int)*((t:Nat):Int)=((2*t:Nat):Int):=by omega
   have c5:((2*t:Nat):Int)+2=((2*t+2:Nat):Int):=by omega
   obtain⟨x,hx⟩:∃x,a+k*hH t=x:=⟨_,rfl⟩
   have hxl:x+hH t≤l.length:=by omega
   have hhl:((l.drop x).take (hH t)).length=hH t:=by rw[List.length_take,List.length_drop];omega
   have k1:(((l.drop x).take (hH t)).drop (0:Int).toNat).take (((t+1:Nat):Int).toNat-(0:Int).toNat)=hA l a t k:=by
    show(((l.drop x).take (hH t)).drop 0).take (t+1)=_
    unfold hA
    rw[hx,List.drop_zero,List.take_take]
    congr 1;omega
   have k2:(((l.drop x).take (hH t)).drop ((t+1:Nat):Int).toNat).take (((2*t+2:Nat):Int).toNat-((t+1:Nat):Int).toNat)=hB l a t k:=by
    show(((l.drop x).take (hH t)).drop (t+1)).take (2*t+2-(t+1))=_
    unfold hB
    rw[hx,List.drop_take,List.drop_drop,List.take_take]
    congr 1;omega
   have k3:(((l.drop x).take (hH t)).drop ((2*t+2:Nat):Int).toNat).take ((((hH t:Nat):Int)).toNat-((2*t+2:Nat):Int).toNat)=(l.drop (x+(2*t+2))).take (t*t):=by
    show(((l.drop x).take (hH t)).drop (2*t+2)).take (hH t-(2*t+2))=_
    rw[List.drop_take,List.drop_drop,List.take_take]
    congr 1;omega
   have hAl:(hA l a t k).length=t+1:=by unfold hA;rw[hx,List.length_take,List.length_drop];omega
   have hBl:(hB l a t k).length=t+1:=by unfold hB;rw[hx,List.length_take,List.length_drop];omega
   obtain⟨D,c,eP,dl,F⟩:=Hk (a:=hA l a t k) (b:=hB l a t k) hp ht (hlp.take hp.pos _ _) (hlp.take hp.pos _ _) (hlp.take hp.pos (x+(2*t+2)) (t*t)) hAl hBl (by rw[List.length_take,List.length_drop];omega)
   unfold fq fW
   simp only
   rw[cb (by omega) (by omega),bS,e1,aS ⟨[],0⟩ (by omega) (by omega),bS,bS,Int.toNat_natCast,hT,bi (by omega) (by omega),bS,c1,iy (by omega) (by omega),bS,c2,mulN (by omega),bS,bi (by omega) (by omega),bS,c3,ix ⟨[],0⟩ (by omega),bS,r2,hx,D1 hxl hl2,bS]
   simp only
   rw[bS,eG (by omega) (by omega) (by omega),bS,k1,iy (by omega) (by omega),bS,c4,bi (by omega) (by omega),bS,c5,eG (by omega) (by omega) (by omega),bS,k2,hhl,eG (by omega) (by omega) (by omega),bS,k3,eP,bS]
   simp only
   rw[Il (by simp only[List.length_cons,List.length_nil];omega),bS]
   have hXl:(([hA l a t k,hB l a t k]++D)++[c]).length=t+3:=by simp only[List.length_append,List.length_cons,List.length_nil];omega
   rw[aM (by rw[hXl];omega) (by rw[hXl];omega),bS]
   have g0:∀q,q<k*(t+3)→(R++(([hA l a t k,hB l a t k]++D)++[c])).getD q []=R.getD q []:=λq hq=>cA (by omega)
   have gA:(R++(([hA l a t k,hB l a t k]++D)++[c])).getD (k*(t+3)) []=hA l a t k:=pV (j:=0) (by omega)
   have gB:(R++(([hA l a t k,hB l a t k]++D)++[c])).getD (k*(t+3)+1) []=hB l a t k:=pV (j:=1) (by omega)
   have gD:∀j,j<t→(R++(([hA l a t k,hB l a t k]++D)++[c])).getD (k*(t+3)+2+j) []=D.getD j []:=λj hj=>by
    rw[pV (j:=2+j) (by omega),cA (by simp only[List.length_append,List.length_cons,List.length_nil];omega),pV (j:=j) (show 2+j=[hA l a t k,hB l a t k].length+j from rfl)]
   have gC:(R++(([hA l a t k,hB l a t k]++D)++[c])).getD (k*(t+3)+2+t) []=c:=by
    rw[pV (j:=2+t) (by omega),df (by simp only[List.length_append,List.length_cons,List.length_nil];omega)]
   refine⟨_,rfl,by simp only[List.length_set];exact r1,?_,λj hj=>?_,?_⟩
   ·simp only
    rw[aN (by omega),if_pos rfl,Nat.succ_mul,←Nat.add_assoc,hx]
   ·simp only
    rw[aN (by omega),if_neg (λe=>hj e.symm)];exact r3 j hj
   ·simp only
    refine⟨by rw[List.length_append,hXl,hRl,Nat.succ_mul],λq hq=>?_,λk' hk'=>?_,λk' hk'=>?_⟩
    ·rw[Nat.succ_mul] at hq
     by_cases g:q<k*(t+3)
     ·rw[g0 q g];exact r4.ww q g
     ·obtain⟨j,rfl⟩:∃j,q=k*(t+3)+j:=⟨q-k*(t+3),by omega⟩
      by_cases j0:j=0
      ·subst j0;rw[Nat.add_zero,gA];exact⟨hAl,hlp.take hp.pos _ _⟩
      ·by_cases j1:j=1
       ·subst j1;rw[gB];exact⟨hBl,hlp.take hp.pos _ _⟩
       ·obtain⟨i,rfl⟩:∃i,j=2+i:=⟨j-2,by omega⟩
        rw[←Nat.add_assoc]
        by_cases g2:i<t
        ·rw[gD i g2];exact F.dw i g2
        ·have:i=t:=by omega
         subst this;rw[gC];exact⟨F.cl,F.cw⟩
    ·by_cases g:k'<k
     ·have h2:k'*(t+3)+(t+3)≤k*(t+3):=by rw[←Nat.succ_mul];exact Nat.mul_le_mul_right (t+3) g
      obtain⟨f1,f2,f3⟩:=r4.pf k' g
      refine⟨by rw[g0 _ (by omega)];exact f1,by rw[g0 _ (by omega)];exact f2,λj hj=>?_,?_,?_,λx=>?_⟩
      ·rw[g0 _ (by omega)];exact f3.dw j hj
      ·rw[g0 _ (by omega)];exact f3.cl
      ·rw[g0 _ (by omega)];exact f3.cw
      ·rw[f3.eq x,g0 _ (by omega)]
       exact congrArg (·+bZ (P S.P (R.getD (k'*(t+3)+2+t) [])) x) (bY λj hj=>by rw[g0 _ (by omega)])
     ·have:k'=k:=by omega
      subst this
      refine⟨gA,gB,λj hj=>?_,?_,?_,λx=>?_⟩
      ·rw[gD j hj];exact F.dw j hj
      ·rw[gC];exact F.cl
      ·rw[gC];exact F.cw
      ·rw[F.eq x,gC]
       exact congrArg (·+bZ (P S.P c) x) (bY λj hj=>by rw[gD j hj])
    ·by_cases g:k'<k
     ·have h2:k'*(t+3)+(t+3)≤k*(t+3):=by rw[←Nat.succ_mul];exact Nat.mul_le_mul_right (t+3) g
      rw[g0 _ (by omega)];exact r4.cv k' g
     ·have:k'=k:=by omega
      subst this
      rw[gC];exact(N2 (by rw[hx];exact eP)).symm)
 obtain⟨T,R⟩:=r
 simp only at r1 r2 r3 r4
 rw[er,bS]
 rw[Nat.zero_add] at r2 r4
 exact⟨R,T,rfl,r1,r2,r3,r4⟩
theorem Cx{net:ai}{r1:ae}{n t m:Nat}[NeZero r1.S.P](hp:fQ r1.S.P)(hT:r1.S.T=(t:Int))(ht:t=1∨t=2)(hm:m≤2)(hn:n≤7){tp:Nat→List Nat}{ps:Nat→Nat}(hts:Ci n net.ak tp ps)(h:∀d,d<n→ps d+m*hH t≤(tp d).length)(hlt:∀d,d<n→Lt r1.S.P (tp d)) :
  ∃T q,cZ (λk1 (st:(List aL)×(List (List (List (List Nat))))×(List Bool)×(List (List (List Nat))))=>gm net ((m:Nat):Int) r1 k1 st.1 st.2.1 st.2.2.1 st.2.2.2) n 1 (net.ak,[],[],[])=some (T,[],[],q)∧q.length=n∧(∀d,d<n→Dw r1.S.P t m (tp d) (ps d) (q.getD d []))∧Ci n T tp (λi=>ps i+m*hH t):=by
 obtain⟨r,er,q1,q2,q3,q4,q5⟩:=bm (body:=λk1 (st:(List aL)×(List (List (List (List Nat))))×(List Bool)×(List (List (List Nat))))=>gm net ((m:Nat):Int) r1 k1 st.1 st.2.1 st.2.2.1 st.2.2.2)
  (λk st=>st.1.length=n∧(∀j,j<n→st.1.getD j ⟨[],0⟩=if j+1<k then⟨tp j,((ps j+m*hH t:Nat):Int)⟩ else⟨tp j,((ps j:Nat):Int)⟩)∧(st.2.1=[]∧st.2.2.1=[])∧st.2.2.2.length=k-1∧∀d,d<k-1→Dw r1.S.P t m (tp d) (ps d) (st.2.2.2.getD d [])) (rem:=n) (k:=1) (s:=(net.ak,[],[],[]))
  ⟨hts.len,λj hj=>by rw[if_neg (by omega)];exact hts.at_ j hj,⟨rfl,rfl⟩,rfl,λd hd=>by omega⟩ (λk st h1 hk ⟨q1,q2,q3,q4,q5⟩=>by
   obtain⟨T,l3,l4,l5⟩:=st
   simp only at q1 q2 q3 q4 q5
   obtain⟨d,rfl⟩:∃d,k=d+1:=⟨k-1,by omega⟩
   have hd:d<n:=by omega
   rw[Nat.add_sub_cancel] at q4 q5
   have hT0:=q2 d hd
   rw[if_neg (by omega)] at hT0
   obtain⟨R,T2,e,t1,t2,t3,t4⟩:=Ev (net:=⟨net.zw,net.ah,net.av,T⟩) (S:=r1.S) (dd:=⟨l3,l4⟩) hp hT ht hm hn hd q1 hT0 (h d hd) (hts.le d hd).2 (hlt d hd)
   unfold gm
   rw[e,bS,aM (by simp only[List.length_cons,List.length_nil];omega) (by simp only[List.length_cons,List.length_nil];omega),bS]
   refine⟨_,rfl,t1,λj hj=>?_,q3,?_,λj hj=>?_⟩
   ·simp only
    by_cases g:j=d
    ·subst g;rw[if_pos (by omega)];exact t2
    ·rw[t3 j g]
     have:=q2 j hj
     simp only
     rw[this]
     by_cases g2:j<d
     ·rw[if_pos (by omega),if_pos (by omega)]
     ·rw[if_neg (by omega),if_neg (by omega)]
   ·simp only
    rw[List.length_append,q4];rfl
   ·simp only
    by_cases g:j<d
    ·rw[cA (by omega)];exact q5 j g
    ·have:j=d:=by omega
     subst this
     rw[df (by omega)];exact t4)
 obtain⟨T,l3,l4,l5⟩:=r
 simp only at q1 q2 q3 q4 q5
 obtain⟨rfl,rfl⟩:=q3
 rw[Nat.add_sub_cancel_left] at q4 q5
 rw[er]
 refine⟨T,l5,rfl,q4,q5,q1,λj hj=>?_,λj hj=>⟨h j hj,(hts.le j hj).2⟩⟩
 rw[q2 j hj,if_pos (by omega)]
end Pu

/- Plain laws of chapter 22: the check of a proof at a point, and the complaints. -/
set_option linter.unusedVariables false
namespace Pu
open Gw Gl Sp
/-- the check of a proof at party i's point -/
def hv(p:Nat)[NeZero p](t i:Nat)(v:List Nat):Bool:=decide (o p (v.getD 0 0)*o p (v.getD 1 0)-sm t (λj=>o p (i+1) ^ (j+1)*o p (v.getD (2+j) 0))=o p (v.getD (2+t) 0))
section
variable {p:Nat}[NeZero p]{n t c:Nat}{res:aT}
theorem Fc(hp:fQ p){at_ a b x:Nat}{d:List Nat}(hat:at_<p)(ha:a<p)(hb:b<p)(hx:x<p)(hd:Lt p d)(hl:d.length=t)(ht:t≤100) :
  jE p at_ a b d x=some (decide (o p a*o p b-sm t (λj=>o p at_ ^ (j+1)*o p (d.getD j 0))=o p x)):=by
 have hlt:=hp.lt
 unfold jE
 rw[jm hp ha hb,bS,zu hp (by omega),bS,Nat.mod_eq_of_lt hat,hl,Nat.sub_zero]
 obtain⟨r,er,r1,r2,r3,r4⟩:=bm (body:=λk1 (st:Nat×Nat)=>fx p at_ d k1 st.1 st.2) (λk st=>st.1<p∧st.2<p∧o p st.1=o p a*o p b-sm k (λj=>o p at_ ^ (j+1)*o p (d.getD j 0))∧o p st.2=o p at_ ^ (k+1)) (rem:=t) (k:=0) (s:=(a*b % p,at_))
  ⟨Nat.mod_lt _ hp.pos,hat,by simp only[sm];rw[lc,nC];grind,by simp only;grind⟩ (λk st _ hk ⟨r1,r2,r3,r4⟩=>by
   unfold fx
   rw[ix 0 (by omega),bS,jm hp r2 (hd.get hp.pos _),bS,yJ hp r1 (Nat.mod_lt _ hp.pos),bS,jm hp r2 hat,bS]
   refine⟨_,rfl,Nat.mod_lt _ hp.pos,Nat.mod_lt _ hp.pos,?_,?_⟩
   ·simp only
    rw[yy (Nat.mod_lt _ hp.pos),lc,nC,r3,r4,sm];grind
   ·simp only
    rw[lc,nC,r4];grind)
 obtain⟨u,v⟩:=r
 simp only at r1 r3
 rw[Nat.zero_add] at r3
 rw[er,bS]
 simp only
 rw[←r3]
 by_cases g:u=x
 ·subst g;rw[eT rfl,dT rfl]
 ·rw[eF (by omega),dF (λe=>g (pZ r1 hx e))]
theorem yn(hp:fQ p){x:aC}(hx:x.zs.P=p){i:Nat}(hi:i+1<p){v:List Nat}(hv1:v.length=t+3)(hvp:Lt p v)(ht:t≤2):eZ x ((i+1:Nat):Int) v=some (hv p t i v):=by
 have hlt:=hp.lt
 have hU:sE ((i+1:Nat):Int)=i+1:=by unfold sE;omega
 have e1:((t+3:Nat):Int)-1=((t+2:Nat):Int):=by omega
 have hc:((v.drop (2:Int).toNat).take (((t+2:Nat):Int).toNat-(2:Int).toNat))=(v.drop 2).take t:=rfl
 have hg:∀j,j<t→((v.drop 2).take t).getD j 0=v.getD (2+j) 0:=λj hj=>by
  rw[List.getD_eq_getElem?_getD,List.getElem?_take,if_pos hj,List.getElem?_drop,←List.getD_eq_getElem?_getD]
 unfold eZ
 rw[hv1,cb (by omega) (by omega),bS,e1,bS,hU,ix 0 (by omega),bS,ix 0 (by omega),bS,eG (by omega) (by omega) (by omega),bS,hc,aS 0 (by omega) (by omega),bS,Int.toNat_natCast,hx,Fc (t:=t) hp hi (hvp.get hp.pos _) (hvp.get hp.pos _) (hvp.get hp.pos _) (hvp.take hp.pos _ _) (by rw[List.length_take,List.length_drop];omega) (by omega),bS]
 unfold hv
 rw[Nat.add_comm 2 t,bY λj hj=>by rw[hg j hj]]
/-- the words of party i for a triple -/
def AO(t:Nat)(f:Nat→List Nat):List Nat:=(List.range (t+3)).map λj=>(f j).getD 0 0
theorem AP{f:Nat→List Nat}:(AO t f).length=t+3:=kM
theorem wb{f:Nat→List Nat}{j:Nat}(hj:j<t+3):(AO t f).getD j 0=(f j).getD 0 0:=jF hj
end
section
variable {p n t c:Nat}{res:aT}
theorem HW(hp:fQ p){f:Nat→List Nat}(h:∀j,j<t+3→Lt p (f j)):Lt p (AO t f):=λi hi=>by
 rw[AP] at hi
 rw[wb hi];exact(h i hi).get hp.pos 0
theorem ru{net:ai}{S:aF}{m:Nat}(F:Fm p n t (m*(t+3)) res)(hT:S.T=(t:Int))(hn:n≤100)(hm:m*(t+3)≤10){d k j:Nat}(hd:d<n)(hk:k<m)(hj:j<t+3):de ⟨net,S,res⟩ ((d+1:Nat):Int) ((k:Nat):Int) ((j:Nat):Int)=some (shr res n d (k*(t+3)+j)):=by
 have h1:k*(t+3)+(t+3)≤m*(t+3):=by rw[←Nat.succ_mul];exact Nat.mul_le_mul_right (t+3) hk
 have e1:((t:Nat):Int)+3=((t+3:Nat):Int):=by omega
 have e2:((k*(t+3):Nat):Int)+((j:Nat):Int)=((k*(t+3)+j:Nat):Int):=by omega
 unfold de cO
 simp only
 rw[hT,bi (by omega) (by omega),bS,bS,e1,mulN (by omega),bS,bi (by omega) (by omega),bS,e2,KH F hn hm hd (by omega),bS]
end
section
variable {p:Nat}[NeZero p]{n t c:Nat}{res:aT}
theorem Ar{i:Nat}{f:Nat→List Nat}:hv p t i (AO t f)=decide (o p ((f 0).getD 0 0)*o p ((f 1).getD 0 0)-sm t (λj=>o p (i+1) ^ (j+1)*o p ((f (2+j)).getD 0 0))=o p ((f (2+t)).getD 0 0)):=by
 unfold hv
 rw[wb (by omega),wb (by omega),wb (by omega),bY λj hj=>by rw[wb (by omega)]]
theorem G6(hp:fQ p){net:ai}{S:aF}{m:Nat}(F:Fm p n t (m*(t+3)) res)(hT:S.T=(t:Int))(hP:S.P=p)(hn:n≤7)(ht:t≤2)(hm:m*(t+3)≤10){i d k:Nat}(hi:i<n)(hd:d<n)(hk:k<m):jH ⟨net,S,res⟩ ((i+1:Nat):Int) ((d+1:Nat):Int) ((k:Nat):Int)=some (hv p t i (AO t λj=>yE res i d (k*(t+3)+j))):=by
 have hlt:=hp.lt
 have h1:k*(t+3)+(t+3)≤m*(t+3):=by rw[←Nat.succ_mul];exact Nat.mul_le_mul_right (t+3) hk
 have e1:((t:Nat):Int)+3=((t+3:Nat):Int):=by omega
 have e2:max 0 (((t+3:Nat):Int)).toNat=t+3:=by omega
 have e3:((i+1:Nat):Int)-1=((i:Nat):Int):=by omega
 have e4:cO (⟨net,S,res⟩:aC)=some ((t+3:Nat):Int):=by
  unfold cO
  simp only
  rw[hT,bi (by omega) (by omega),bS,e1]
 unfold jH
 rw[e4,bS,e2,bJ (by omega),bS,Nat.sub_zero,fA (λj=>(yE res i d (k*(t+3)+j)).getD 0 0) (λj l hj hl=>by
  have hw:=F.ww i hi d hd (k*(t+3)+j) (by omega)
  unfold nq
  rw[ru F hT (by omega) hm hd hk hj,bS,cb (by omega) (by omega),bS,e3,aS [] (by omega) (by rw[AK];omega),bS,Int.toNat_natCast,lJ hi,ix 0 (by omega),bS,aM (by simp only[List.length_cons,List.length_nil];omega) (by simp only[List.length_cons,List.length_nil];omega),bS]),bS]
 show(eZ _ _ (AO t λj=>yE res i d (k*(t+3)+j)) >>= _)=_
 rw[yn (t:=t) hp hP (by omega) AP (HW hp λj hj=>(F.ww i hi d hd (k*(t+3)+j) (by omega)).2) ht,bS]
/-- what party i says of the a-th triple -/
def vW(p t n m:Nat)[NeZero p](res:aT)(i a:Nat):Nat:=if hv p t i (AO t λj=>yE res i (a / m) (a % m*(t+3)+j)) then 0 else 1
def vn(p t n m:Nat)[NeZero p](res:aT):List (List Nat):=(List.range n).map λi=>(List.range (n*m)).map λa=>vW p t n m res i a
def pc(c:Nat×Nat×Nat):bb:=⟨((c.1+1:Nat):Int),((c.2.1+1:Nat):Int),((c.2.2:Nat):Int)⟩
theorem E4(hp:fQ p){m:Nat}:Bl p n (n*m) (vn p t n m res):=⟨kM,λi hi=>by
 have hlt:=hp.lt
 unfold vn
 rw[jF hi,kM]
 refine⟨λa ha=>?_,Nat.le_refl _⟩
 rw[kM] at ha
 rw[jF ha]
 unfold vW
 split <;> omega⟩
theorem E6{net:ai}{m:Nat}[NeZero net.zw.S.P](s:Sc net.zw n t)(F:Fm net.zw.S.P n t (m*(t+3)) res)(hn:n≤7)(ht:t≤2)(hm:0<m)(hm2:m≤2) :
  cZ (λk1 (st:(List (List Nat)))=>gG ⟨net,net.zw.S,res⟩ ((m:Nat):Int) k1 st) n 1 ([]:List (List Nat))=some (vn net.zw.S.P t n m res):=by
 have hp:=s.sup
 have hlt:=hp.lt
 have hnm:n*m≤14:=Nat.le_trans (Nat.mul_le_mul hn hm2) (by omega)
 have hm10:m*(t+3)≤10:=Nat.le_trans (Nat.mul_le_mul hm2 (show t+3≤5 by omega)) (by omega)
 have e0:max 1 ((n:Int)+1).toNat-1=n:=by omega
 have e1:max 0 ((m:Nat):Int).toNat=m:=by omega
 unfold vn
 refine B2 (λi=>(List.range (n*m)).map λa=>vW net.zw.S.P t n m res i a) λi l hi hll=>?_
 unfold gG
 simp only
 rw[s.N,e0]
 obtain⟨r,er,hr⟩:=bm (body:=λk2 (st:(List Nat))=>gH ⟨net,net.zw.S,res⟩ ((m:Nat):Int) (i+1) k2 st) (λk r=>r=(List.range ((k-1)*m)).map λa=>vW net.zw.S.P t n m res i a) (rem:=n) (k:=1) (s:=[]) (by simp) (λk r h1 hk hr=>by
  obtain⟨d,rfl⟩:∃d,k=d+1:=⟨k-1,by omega⟩
  have hd:d<n:=by omega
  rw[Nat.add_sub_cancel] at hr
  unfold gH
  rw[e1,bJ (by omega),bS,Nat.sub_zero]
  obtain⟨r2,er2,hr2⟩:=bm (body:=λk3 (st:(List Nat))=>gI ⟨net,net.zw.S,res⟩ (i+1) (d+1) k3 st) (λk r=>r=(List.range (d*m+k)).map λa=>vW net.zw.S.P t n m res i a) (rem:=m) (k:=0) (s:=r) hr (λk r _ hk hr=>by
   have hkm:k<m:=by omega
   have hdm:d*m+m≤n*m:=by rw[←Nat.succ_mul];exact Nat.mul_le_mul_right m hd
   have q1:(d*m+k) / m=d:=by rw[Nat.mul_comm,Nat.mul_add_div hm,Nat.div_eq_of_lt hkm,Nat.add_zero]
   have q2:(d*m+k) % m=k:=by rw[Nat.mul_comm,Nat.mul_add_mod,Nat.mod_eq_of_lt hkm]
   have hrl:r.length≤14:=by rw[hr,kM];omega
   unfold gI
   rw[G6 hp F s.T rfl hn ht hm10 hi hd hkm,bS]
   have hw:vW net.zw.S.P t n m res i (d*m+k)=if hv net.zw.S.P t i (AO t λj=>yE res i d (k*(t+3)+j)) then 0 else 1:=by unfold vW;rw[q1,q2]
   cases hh:hv net.zw.S.P t i (AO t λj=>yE res i d (k*(t+3)+j))
   ·rw[cF,aM (by simp only[List.length_cons,List.length_nil];omega) (by simp only[List.length_cons,List.length_nil];omega),bS]
    refine⟨_,rfl,?_⟩
    rw[←Nat.add_assoc,List.range_succ,List.map_append,←hr,List.map_cons,hw,hh];rfl
   ·rw[cT,aM (by simp only[List.length_cons,List.length_nil];omega) (by simp only[List.length_cons,List.length_nil];omega),bS]
    refine⟨_,rfl,?_⟩
    rw[←Nat.add_assoc,List.range_succ,List.map_append,←hr,List.map_cons,hw,hh];rfl)
  rw[er2,bS]
  refine⟨_,rfl,?_⟩
  rw[hr2,Nat.add_sub_cancel,Nat.zero_add,Nat.succ_mul])
 rw[Nat.add_sub_cancel_left] at hr
 rw[er,bS,aM (by simp only[List.length_cons,List.length_nil];omega) (by simp only[List.length_cons,List.length_nil];omega),bS,hr]
end
section
variable {p n t c:Nat}{res:aT}
/-- the complaints that are heard -/
theorem CH{net:ai}{S:aF}{m:Nat}{x1:Int}{x2:List (List am)}(F:Fm p n t c res)(hN:S.N=(n:Int))(hn:n≤7)(hm:0<m)(hm2:m≤2){h:List (List Nat)}(hh:h.length=n) :
  cZ (λk4 (st:(List bb))=>eW ⟨net,S,res⟩ ((m:Nat):Int) (h,x1,x2) k4 st) n 0 []=some ((Fp n m (λd=>res.be.getD d false) h n).map pc):=by
 have hnm:n*m≤14:=Nat.le_trans (Nat.mul_le_mul hn hm2) (by omega)
 have e1:((n:Nat):Int)*((m:Nat):Int)=((n*m:Nat):Int):=by rw[Int.natCast_mul]
 obtain⟨r,er,hr⟩:=bm (body:=λk4 (st:(List bb))=>eW ⟨net,S,res⟩ ((m:Nat):Int) (h,x1,x2) k4 st) (λk l=>l=(Fp n m (λd=>res.be.getD d false) h k).map pc) (rem:=n) (k:=0) (s:=[]) rfl (λi acc _ hi hacc=>by
  have hin:i<n:=by omega
  have hal:acc.length≤98:=by
   rw[hacc,List.length_map]
   exact Nat.le_trans z7 (Nat.le_trans (Nat.mul_le_mul (show i≤7 by omega) hnm) (by omega))
  obtain⟨r,er,r1,r2⟩:=nS (l:=h.getD i []) (m:=n*m) (by omega)
  unfold eW
  simp only
  rw[ix [] (by omega),bS,hN,iy (by omega) (by omega),bS,e1,er,bS,r1,Nat.sub_zero]
  obtain⟨l,el,l1,l2⟩:=bm (body:=λk1 (st:(List bb))=>gJ ⟨net,S,res⟩ ((m:Nat):Int) i r k1 st)
   (λk l=>l=acc++(((List.range k).filter λa=>decide ((h.getD i []).getD a 0≠0)&&!res.be.getD (a / m) false).map λa=>pc (i,a / m,a % m))∧l.length≤98+k) (rem:=n*m) (k:=0) (s:=acc) ⟨by simp,by omega⟩ (λk l _ hk ⟨l1,l2⟩=>by
    have hkn:k<n*m:=by omega
    have hd:k / m<n:=Nat.div_lt_of_lt_mul (by rw[Nat.mul_comm];exact hkn)
    obtain⟨kd,hkd⟩:∃kd,k / m=kd:=⟨_,rfl⟩
    rw[hkd] at hd
    unfold gJ
    rw[ix 0 (by omega),bS,r2 k hkn]
    by_cases g:(h.getD i []).getD k 0=0
    ·rw[qF (by omega),cF,bS,cF]
     refine⟨_,rfl,?_,by omega⟩
     rw[List.range_succ,List.filter_append,List.filter_cons,hkd,dF (by omega),Bool.false_and,if_neg (by decide),List.filter_nil,List.append_nil]
     exact l1
    ·rw[qT (by omega),cT,divN hm (by omega),bS,hkd,aS false (by omega) (by simp only;rw[F.dl];omega),bS,Int.toNat_natCast,bS]
     simp only
     cases hq:res.be.getD kd false
     ·have e2:((kd:Nat):Int)+1=((kd+1:Nat):Int):=by omega
      have e3:((i:Nat):Int)+1=((i+1:Nat):Int):=by omega
      rw[nF,cT,bi (by omega) (by omega),bS,e3,bS,bi (by omega) (by omega),bS,Qj hm,bS,aM (by simp only[List.length_cons,List.length_nil];omega) (by simp only[List.length_cons,List.length_nil];omega),bS]
      refine⟨_,rfl,?_,by rw[List.length_append];simp only[List.length_cons,List.length_nil];omega⟩
      rw[List.range_succ,List.filter_append,List.filter_cons,hkd,dT g,hq,if_pos (by decide),List.filter_nil,List.map_append,←List.append_assoc,←l1,e2]
      show _=l++[pc (i,k / m,k % m)]
      rw[hkd]
      rfl
     ·rw[nT,cF]
      refine⟨_,rfl,?_,by omega⟩
      rw[List.range_succ,List.filter_append,List.filter_cons,hkd,hq,nT,Bool.and_false,if_neg (by decide),List.filter_nil,List.append_nil]
      exact l1)
  rw[Nat.zero_add] at l1
  rw[el,bS,l1]
  refine⟨_,rfl,?_⟩
  unfold Fp
  rw[List.range_succ,List.flatMap_append,List.map_append,hacc]
  congr 1
  simp)
 rw[er,hr,Nat.zero_add]
end
section
variable {n t:Nat}{res:aT}
/-- the complaints -/
theorem xy{net:ai}{m:Nat}[NeZero net.zw.S.P](s:Sc net.zw n t)(F:Fm net.zw.S.P n t (m*(t+3)) res)(hn:n≤7)(ht:t≤2)(hm:0<m)(hm2:m≤2){B:Nat}(hv:VB n B net.av)(hB:B≤500)(hr:0≤net.ah∧net.ah≤1000) :
  ∃all views,fD ⟨net,net.zw.S,res⟩ ((m:Nat):Int)=some ((Fp n m (λd=>res.be.getD d false) all n).map pc,net.ah+1,views) ∧
   (∀i,i<n→Hn net.zw i→all.getD i []=(vn net.zw.S.P t n m res).getD i [])∧VB n (B+n) views:=by
 have hnm:n*m≤14:=Nat.le_trans (Nat.mul_le_mul hn hm2) (by omega)
 have e0:max 1 ((n:Int)+1).toNat=n+1:=by omega
 have e1:max 0 ((n:Nat):Int).toNat=n:=by omega
 obtain⟨all,views,eb,ea,b1,b2,b3,b4,b5⟩:=Ba s (L:=n*m) (E4 (n:=n) (t:=t) (m:=m) (res:=res) s.sup) (by omega) hv.1 (λj hj=>Nat.le_trans (hv.2 j hj) hB) hr
 unfold fD
 simp only
 rw[s.N,e0,bJ (by omega),bS,Nat.add_sub_cancel,E6 s F hn ht hm hm2,bS,eb,bS,e1,bJ (by omega),bS,Nat.sub_zero,CH F s.N hn hm hm2 b1.len,bS]
 refine⟨all,views,rfl,λi hi hh=>?_,b4,λj hj=>?_⟩
 ·rcases hh with h | h
  ·exact b2 i hi h
  ·rw[b3 h]
 ·rw[b5 j hj,List.length_append]
  have:=hv.2 j hj
  have:(y6 net.ah all j n).length≤n:=z9
  omega
end
end Pu

/- Plain laws of chapter 22: the judgement. -/
set_option linter.unusedVariables false
namespace Pu
open Gw Gl Sp
/-- what is opened -/
def Ay(res:aT)(n t:Nat)(cl:List (Nat×Nat×Nat))(q:Nat):List (List Nat):=shr res n (cl.getD (q / (t+3)) (0,0,0)).2.1 ((cl.getD (q / (t+3)) (0,0,0)).2.2*(t+3)+q % (t+3))
def yW(t:Nat)(cl:List (Nat×Nat×Nat))(q:Nat):Nat:=(cl.getD (q / (t+3)) (0,0,0)).1
theorem QG{k t j:Nat}(h:j<t+3):(k*(t+3)+j) / (t+3)=k∧(k*(t+3)+j) % (t+3)=j:=by
 rw[Nat.mul_comm]
 exact⟨by rw[Nat.mul_add_div (by omega),Nat.div_eq_of_lt h,Nat.add_zero],by rw[Nat.mul_add_mod,Nat.mod_eq_of_lt h]⟩
theorem Q5{q k t:Nat}(h:q<k*(t+3)):q / (t+3)<k:=Nat.div_lt_of_lt_mul (by rw[Nat.mul_comm];exact h)
theorem CS{net:ai}{S:aF}{t:Nat}{res:aT}(hT:S.T=(t:Int))(ht:t≤2):cO (⟨net,S,res⟩:aC)=some ((t+3:Nat):Int):=by
 have e1:((t:Nat):Int)+3=((t+3:Nat):Int):=by omega
 unfold cO
 simp only
 rw[hT,bi (by omega) (by omega),bS,e1]
theorem BK{net:ai}{S:aF}{p n t m:Nat}{res:aT}(F:Fm p n t (m*(t+3)) res)(hT:S.T=(t:Int))(hn:n≤7)(ht:t≤2)(hm:m≤2){cl:List (Nat×Nat×Nat)}(hl:cl.length≤98)(hc:∀c∈cl,c.1<n∧c.2.1<n∧c.2.2<m) :
  cZ (λk1 (st:(List (List (List Nat)))×(List Int))=>dK ⟨net,S,res⟩ (cl.map pc) k1 st.1 st.2) cl.length 0 ([],[])=some ((List.range (cl.length*(t+3))).map (Ay res n t cl),(List.range (cl.length*(t+3))).map λq=>((yW t cl q+1:Nat):Int)):=by
 have hm10:m*(t+3)≤10:=Nat.le_trans (Nat.mul_le_mul hm (show t+3≤5 by omega)) (by omega)
 have e2:max 0 (((t+3:Nat):Int)).toNat=t+3:=by omega
 obtain⟨r,e,h⟩:=bm (body:=λk1 (st:(List (List (List Nat)))×(List Int))=>dK ⟨net,S,res⟩ (cl.map pc) k1 st.1 st.2) (λk st=>st=((List.range (k*(t+3))).map (Ay res n t cl),(List.range (k*(t+3))).map λq=>((yW t cl q+1:Nat):Int))) (rem:=cl.length) (k:=0) (s:=([],[])) (by rw[Nat.zero_mul];rfl) (λk st _ hk hst=>by
  have hkl:k<cl.length:=by omega
  obtain⟨c1,c2,c3⟩:=hc _ (getD_in (d:=(0,0,0)) hkl)
  have hg:(cl.map pc)[k]?=some (pc (cl.getD k (0,0,0))):=by rw[List.getElem?_map,ix (0,0,0) hkl];rfl
  have hb:k*(t+3)+(t+3)≤490:=by
   rw[←Nat.succ_mul]
   exact Nat.le_trans (Nat.mul_le_mul (show k+1≤98 by omega) (show t+3≤5 by omega)) (by omega)
  subst hst
  unfold dK
  rw[hg,bS,CS hT ht,bS,e2,bJ (by omega),bS,Nat.sub_zero]
  simp only
  obtain⟨r,er,hr⟩:=bm (body:=λk2 (st:(List (List (List Nat)))×(List Int))=>fi ⟨net,S,res⟩ (pc (cl.getD k (0,0,0))) k2 st.1 st.2) (λj st=>st=((List.range (k*(t+3)+j)).map (Ay res n t cl),(List.range (k*(t+3)+j)).map λq=>((yW t cl q+1:Nat):Int))) (rem:=t+3) (k:=0) (s:=((List.range (k*(t+3))).map (Ay res n t cl),(List.range (k*(t+3))).map λq=>((yW t cl q+1:Nat):Int))) rfl (λj st _ hj hst=>by
   have hj3:j<t+3:=by omega
   obtain⟨d1,d2⟩:=QG (k:=k) hj3
   have o1:Ay res n t cl (k*(t+3)+j)=shr res n (cl.getD k (0,0,0)).2.1 ((cl.getD k (0,0,0)).2.2*(t+3)+j):=by unfold Ay;rw[d1,d2]
   have o2:yW t cl (k*(t+3)+j)=(cl.getD k (0,0,0)).1:=by unfold yW;rw[d1]
   subst hst
   unfold fi pc
   simp only
   rw[ru F hT (by omega) hm10 c2 c3 hj3,bS,aM (by simp only[List.length_cons,List.length_nil,kM];omega) (by simp only[List.length_cons,List.length_nil,kM];omega),bS,aM (by simp only[List.length_cons,List.length_nil,kM];omega) (by simp only[List.length_cons,List.length_nil,kM];omega),bS]
   refine⟨_,rfl,?_⟩
   rw[←Nat.add_assoc,List.range_succ,List.map_append,List.map_append]
   simp only[List.map_cons,List.map_nil,o1,o2])
  rw[er,bS,hr]
  refine⟨_,rfl,?_⟩
  rw[Nat.zero_add,Nat.succ_mul])
 rw[e,h,Nat.zero_add]
/-- the first honest party -/
theorem Bz{net:ai}{S:aF}{n t:Nat}{res:aT}(s:Sc net.zw n t):∃j:Nat,iQ ⟨net,S,res⟩=some ((j:Nat):Int)∧j<n:=by
 have h13:=s.n13
 have h3:=s.t3
 have hcl:=s.cl
 have hex:∃j,j<n∧(((j:Nat):Int)+1)∉net.zw.af:=by
  have h1:=Aq s
  obtain⟨m1,m2⟩:=un (w:=net.zw) (n:=n) (i:=0) (by omega)
  exact⟨_,m1,m2⟩
 obtain⟨j0,hj0,hj1⟩:=hex
 unfold iQ bp
 rw[bS]
 simp only
 obtain⟨r,er,hr⟩:=kK (step:=λ(st:Int)=>ju net.zw st) (λst=>∃k:Nat,st=((k+1:Nat):Int)∧k≤j0) (λr=>∃j:Nat,r=.inl ((j:Nat):Int)∧j<n) (λst=>n+1-st.toNat) (λst ⟨k,hst,hk⟩=>by
  subst hst
  unfold ju
  rw[Nat.sub_zero]
  obtain⟨b,eb,hb⟩:=bm (body:=λk1 (st:Bool)=>jv net.zw ((k+1:Nat):Int) k1 st) (λq b=>b=decide (∃i,i<q∧net.zw.af.getD i 0=((k+1:Nat):Int))) (rem:=net.zw.af.length) (k:=0) (s:=false) (by
   symm;exact decide_eq_false (λ⟨i,hi,_⟩=>by omega)) (λq b _ hq hb=>by
    unfold jv
    rw[ix 0 (by omega),bS,hb]
    by_cases g:∃i,i<q∧net.zw.af.getD i 0=((k+1:Nat):Int)
    ·rw[decide_eq_true g,cT]
     obtain⟨i,hi,h⟩:=g
     refine⟨_,rfl,(decide_eq_true ⟨i,by omega,h⟩).symm⟩
    ·rw[decide_eq_false g,cF]
     refine⟨_,rfl,?_⟩
     by_cases g2:net.zw.af.getD q 0=((k+1:Nat):Int)
     ·rw[eT g2];exact(decide_eq_true ⟨q,by omega,g2⟩).symm
     ·rw[eF g2]
      refine(decide_eq_false λ⟨i,hi,h⟩=>?_).symm
      by_cases gi:i=q
      ·subst gi;exact g2 h
      ·exact g ⟨i,by omega,h⟩)
  rw[eb,bS,hb,Nat.zero_add]
  by_cases g:∃i,i<net.zw.af.length∧net.zw.af.getD i 0=((k+1:Nat):Int)
  ·have hk2:k<j0:=by
    rcases Nat.lt_or_ge k j0 with h | h
    ·exact h
    ·exfalso
     have:k=j0:=by omega
     subst this
     obtain⟨i,hi,h⟩:=g
     apply hj1
     have:=getD_in (d:=(0:Int)) hi
     rw[h] at this
     exact this
   have e2:((k+1:Nat):Int)+1=((k+1+1:Nat):Int):=by omega
   rw[decide_eq_true g,nT,cF,bi (by omega) (by omega),bS,e2]
   exact⟨_,rfl,⟨k+1,rfl,by omega⟩,by omega⟩
  ·have e2:((k+1:Nat):Int)-1=((k:Nat):Int):=by omega
   rw[decide_eq_false g,nF,cT,cb (by omega) (by omega),bS,e2]
   exact⟨_,rfl,k,rfl,by omega⟩) (s:=((1:Nat):Int)) ⟨0,rfl,by omega⟩ (by omega)
 obtain⟨j,rfl,hj⟩:=hr
 rw[er,bS]
 exact⟨j,rfl,hj⟩
/-- the opened words do not fit -/
def Bd(p:Nat)[NeZero p](t:Nat)(F0:Nat→Nat→Nat→List Nat)(c:Nat×Nat×Nat):Prop :=
 o p ((F0 c.2.1 (c.2.2*(t+3)) c.1).getD 0 0)*o p ((F0 c.2.1 (c.2.2*(t+3)+1) c.1).getD 0 0)-sm t (λj=>o p (c.1+1) ^ (j+1)*o p ((F0 c.2.1 (c.2.2*(t+3)+(2+j)) c.1).getD 0 0))≠o p ((F0 c.2.1 (c.2.2*(t+3)+(2+t)) c.1).getD 0 0)
theorem El{n:Nat}{l:List Bool}(h:l.length=n):jd (List.replicate n false) l=l:=by
 unfold jd
 rw[List.length_replicate,h,Nat.min_self,←h,List.take_length,List.drop_of_length_le (by rw[List.length_replicate];omega),List.append_nil]
theorem CM{net:ai}{n t m B:Nat}[NeZero net.zw.S.P]{res:aT}(s:Sc net.zw n t)(F:Fm net.zw.S.P n t (m*(t+3)) res)(hn:n≤7)(ht:t≤2)(hm2:m≤2){cl:List (Nat×Nat×Nat)}(hcl:cl.length≤98)(hc:∀c∈cl,c.1<n∧c.2.1<n∧c.2.2<m)
  (hv:VB n B net.av) (hB:B≤500) (hr:0≤net.ah∧net.ah≤1000) {F0:Nat→Nat→Nat→List Nat}
  (hf:∀d,d<n→∀k,k<m*(t+3)→∀b,b<n→(F0 d k b).length≤t+1∧∀i,i<n→(((i:Nat):Int)+1)∉net.zw.af→bZ (P net.zw.S.P (yE res i d k)) (o net.zw.S.P (b+1))=bZ (P net.zw.S.P (F0 d k b)) (o net.zw.S.P (i+1))) :
  ∃out round views,iR ⟨net,net.zw.S,res⟩ (cl.map pc)=some (out,round,views)∧out.length=n∧(∀d,d<n→(out.getD d false=true↔res.be.getD d false=true∨∃c∈cl,c.2.1=d∧Bd net.zw.S.P t F0 c))∧VB n (B+n) views∧(round=net.ah∨round=net.ah+1)∧(cl=[]→round=net.ah):=by
 have hp:=s.sup
 have hlt:=hp.lt
 have h4:=s.n4
 have hm10:m*(t+3)≤10:=Nat.le_trans (Nat.mul_le_mul hm2 (show t+3≤5 by omega)) (by omega)
 have e2:max 0 (((t+3:Nat):Int)).toNat=t+3:=by omega
 obtain⟨w,zr,zv,zt⟩:=net
 simp only at *
 unfold iR
 simp only
 rw[s.N,ci (by omega) (by omega) (by omega) (by omega),bS,Int.toNat_natCast,List.length_map,Nat.sub_zero,BK F s.T hn ht hm2 hcl hc,bS]
 simp only
 rw[El F.dl]
 by_cases h0:cl.length=0
 ·have:cl=[]:=List.length_eq_zero_iff.1 h0
  subst this
  obtain⟨j0,ej,hj⟩:=Bz (net:=⟨w,zr,zv,zt⟩) (S:=w.S) (res:=res) s
  unfold iB bp
  rw[bS]
  simp only
  rw[s.N,ci (by omega) (by omega) (by omega) (by omega),bS,eT (by simp),cT,bS]
  simp only
  rw[ej,bS]
  refine⟨_,_,_,rfl,F.dl,λd hd=>⟨λh=>.inl h,λh=>?_⟩,⟨hv.1,λj hj=>by have:=hv.2 j hj;omega⟩,.inl rfl,λ_=>rfl⟩
  rcases h with h | ⟨c,hc,_⟩
  ·exact h
  ·cases hc
 have hb490:cl.length*(t+3)≤490:=Nat.le_trans (Nat.mul_le_mul hcl (show t+3≤5 by omega)) (by omega)
 have hpos:0<cl.length*(t+3):=Nat.mul_pos (by omega) (by omega)
 have hC:∀q,q<cl.length*(t+3)→(cl.getD (q / (t+3)) (0,0,0)).1<n∧(cl.getD (q / (t+3)) (0,0,0)).2.1<n∧(cl.getD (q / (t+3)) (0,0,0)).2.2*(t+3)+q % (t+3)<m*(t+3):=λq hq=>by
  obtain⟨c1,c2,c3⟩:=hc _ (getD_in (d:=(0,0,0)) (Q5 hq))
  refine⟨c1,c2,?_⟩
  have h1:(cl.getD (q / (t+3)) (0,0,0)).2.2*(t+3)+(t+3)≤m*(t+3):=by rw[←Nat.succ_mul];exact Nat.mul_le_mul_right (t+3) c3
  have:=Nat.mod_lt q (show 0<t+3 by omega)
  omega
 obtain⟨rows,views,er,r1,r2,r3⟩:=Hw (net:=⟨w,zr,zv,zt⟩) (m:=cl.length*(t+3)) (a:=yW t cl) (B:=B) (w:=(List.range (cl.length*(t+3))).map (Ay res n t cl)) (ats:=(List.range (cl.length*(t+3))).map λq=>((yW t cl q+1:Nat):Int)) s (by omega) kM hpos (λq hq=>by
   obtain⟨c1,c2,c3⟩:=hC q hq
   rw[jF hq]
   unfold Ay
   refine⟨AK,λi hi=>?_⟩
   rw[lJ hi]
   obtain⟨w1,w2⟩:=F.ww i hi _ c2 _ c3
   exact⟨by omega,w2⟩) kM (λq hq=>⟨jF hq,(hC q hq).1⟩) hv hB hr (f0:=λq=>F0 (cl.getD (q / (t+3)) (0,0,0)).2.1 ((cl.getD (q / (t+3)) (0,0,0)).2.2*(t+3)+q % (t+3)) (yW t cl q)) (λq hq=>by
   obtain⟨c1,c2,c3⟩:=hC q hq
   obtain⟨g1,g2⟩:=hf _ c2 _ c3 _ c1
   refine⟨g1,λi hi hci=>?_⟩
   rw[jF hq]
   unfold Ay
   rw[lJ hi]
   exact g2 i hi hci)
 simp only at er
 rw[er,bS]
 simp only
 obtain⟨j0,ej,hj⟩:=Bz (net:=⟨w,zr+1,views,zt⟩) (S:=w.S) (res:=res) s
 rw[ej,bS]
 obtain⟨q1,q2⟩:=r2 j0 hj
 have hgr:gY rows ((j0:Nat):Int)=some (rows.getD j0 []):=by rw[aS [] (by omega) (by omega),Int.toNat_natCast]
 generalize rows.getD j0 []=R0 at *
 have hfit:∀k,k<cl.length→(Pu.hv w.S.P t (cl.getD k (0,0,0)).1 (AO t λj=>R0.getD (k*(t+3)+j) [])=false↔Bd w.S.P t F0 (cl.getD k (0,0,0))):=λk hk=>by
  have hk3:k*(t+3)+(t+3)≤cl.length*(t+3):=by rw[←Nat.succ_mul];exact Nat.mul_le_mul_right (t+3) hk
  have ho:∀j,j<t+3→o w.S.P ((R0.getD (k*(t+3)+j) []).getD 0 0)=o w.S.P ((F0 (cl.getD k (0,0,0)).2.1 ((cl.getD k (0,0,0)).2.2*(t+3)+j) (cl.getD k (0,0,0)).1).getD 0 0):=λj hj=>by
   obtain⟨d1,d2⟩:=QG (k:=k) hj
   have:=(q2 (k*(t+3)+j) (by omega)).2.2 0
   unfold yW at this
   rw[d1,d2] at this
   exact this
  rw[Ar,decide_eq_false_iff_not]
  unfold Bd
  rw[ho 0 (by omega),ho 1 (by omega),ho (2+t) (by omega),bY λj hj=>by rw[ho (2+j) (by omega)],Nat.add_zero]
 obtain⟨out,eo,o1,o2⟩:=bm (body:=λk3 (st:(List Bool))=>jw ⟨⟨w,zr,zv,zt⟩,w.S,res⟩ (cl.map pc) (rows,zr+1,views) ((j0:Nat):Int) k3 st)
  (λk l=>l.length=n∧∀d,d<n→(l.getD d false=true↔res.be.getD d false=true∨∃i,i<k∧(cl.getD i (0,0,0)).2.1=d∧Bd w.S.P t F0 (cl.getD i (0,0,0)))) (rem:=cl.length) (k:=0) (s:=res.be)
  ⟨F.dl,λd hd=>⟨λh=>.inl h,λh=>by
   rcases h with h | ⟨i,hi,_⟩
   ·exact h
   ·omega⟩⟩ (λk l _ hk ⟨o1,o2⟩=>by
   have hkl:k<cl.length:=by omega
   obtain⟨c1,c2,c3⟩:=hc _ (getD_in (d:=(0,0,0)) hkl)
   have hg:(cl.map pc)[k]?=some (pc (cl.getD k (0,0,0))):=by rw[List.getElem?_map,ix (0,0,0) hkl];rfl
   have hk3:k*(t+3)+(t+3)≤cl.length*(t+3):=by rw[←Nat.succ_mul];exact Nat.mul_le_mul_right (t+3) hkl
   have hfk:=hfit k hkl
   have e3:((k*(t+3):Nat):Int)=((k*(t+3):Nat):Int):=rfl
   unfold jw
   simp only
   rw[hg,bS,CS s.T ht,bS,e2,bJ (by omega),bS,Nat.sub_zero,fA (λj=>(R0.getD (k*(t+3)+j) []).getD 0 0) (λj l hj hl=>by
    have e4:((k*(t+3):Nat):Int)+((j:Nat):Int)=((k*(t+3)+j:Nat):Int):=by omega
    have hw:=(q2 (k*(t+3)+j) (by omega)).1
    unfold md
    simp only
    rw[hgr,bS,mulN (by omega),bS,bi (by omega) (by omega),bS,e4,aS [] (by omega) (by omega),bS,Int.toNat_natCast,ix 0 (by omega),bS,aM (by simp only[List.length_cons,List.length_nil];omega) (by simp only[List.length_cons,List.length_nil];omega),bS]),bS]
   generalize hck:cl.getD k (0,0,0)=c at *
   have hvec:((List.range (t+3)).map λj=>(R0.getD (k*(t+3)+j) []).getD 0 0)=AO t λj=>R0.getD (k*(t+3)+j) []:=rfl
   rw[hvec]
   unfold pc
   simp only
   rw[yn (p:=w.S.P) (t:=t) hp rfl (by omega) AP (HW hp λj hj=>(q2 (k*(t+3)+j) (by omega)).2.1) ht,bS]
   cases hh:Pu.hv w.S.P t c.1 (AO t λj=>R0.getD (k*(t+3)+j) [])
   ·have e3:((c.2.1+1:Nat):Int)-1=((c.2.1:Nat):Int):=by omega
    rw[nF,cT,cb (by omega) (by omega),bS,e3,aS false (by omega) (by omega),bS,Int.toNat_natCast,bS]
    refine⟨_,rfl,by rw[List.length_set];exact o1,λd hd=>?_⟩
    rw[aN (by omega)]
    by_cases g:c.2.1=d
    ·rw[if_pos g]
     exact⟨λ_=>.inr ⟨k,by omega,by rw[hck];exact⟨g,hfk.1 hh⟩⟩,λ_=>rfl⟩
    ·rw[if_neg g,o2 d hd]
     refine or_congr_right ⟨λ⟨i,hi,h⟩=>⟨i,by omega,h⟩,λ⟨i,hi,h⟩=>?_⟩
     by_cases gi:i=k
     ·subst gi;rw[hck] at h;exact absurd h.1 g
     ·exact⟨i,by omega,h⟩
   ·rw[nT,cF]
    refine⟨_,rfl,o1,λd hd=>?_⟩
    rw[o2 d hd]
    refine or_congr_right ⟨λ⟨i,hi,h⟩=>⟨i,by omega,h⟩,λ⟨i,hi,h⟩=>?_⟩
    by_cases gi:i=k
    ·subst gi;rw[hck] at h
     rw[hfk.2 h.2] at hh;cases hh
    ·exact⟨i,by omega,h⟩)
 rw[Nat.zero_add] at o2
 rw[eo,bS]
 refine⟨out,_,views,rfl,o1,λd hd=>?_,r3,.inr rfl,λh=>absurd (by rw[h];rfl) h0⟩
 rw[o2 d hd]
 refine or_congr_right ⟨λ⟨i,hi,h⟩=>⟨_,getD_in hi,h⟩,λ⟨c,hcm,h⟩=>?_⟩
 obtain⟨i,hi,rfl⟩:=List.getElem_of_mem hcm
 refine⟨i,hi,?_⟩
 have:cl.getD i (0,0,0)=cl[i]:=by rw[List.getD_eq_getElem?_getD,List.getElem?_eq_getElem hi];rfl
 rw[this];exact h
end Pu
