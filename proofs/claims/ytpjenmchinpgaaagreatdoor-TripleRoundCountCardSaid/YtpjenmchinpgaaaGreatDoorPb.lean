/- Plain laws of the field's functions. -/
import Derived.Test.YtpjenmchinpgaaaGreatDoorU2p
import Derived.Test.YtpjenmchinpgaaaGreatDoorWl
import Derived.Test.YtpjenmchinpgaaaGreatDoorSp
set_option linter.unusedVariables false
namespace Pu
open Gw Gl Sp
theorem zz{a b:Nat}(h:a=b):(((a:Nat):Int)==((b:Nat):Int))=true:=eT (by rw[h])
theorem Qr{a b:Nat}(h:a≠b):(((a:Nat):Int)==((b:Nat):Int))=false:=eF (by omega)
theorem H6{p:Nat}(hp:fQ p):tf p=some (qN p):=by
 rcases hp with rfl | rfl | rfl | rfl | rfl | rfl | rfl <;> decide +kernel
theorem zU{a b:Nat}(ha:a<18446744073709551616)(hb:b<18446744073709551616):xp a b=a &&& b:=by
 unfold xp;rw[Nat.mod_eq_of_lt ha,Nat.mod_eq_of_lt hb]
theorem us{a q:Nat}(hq:q≤64):vo a ((q:Nat):Int)=some (a / 2 ^ q):=by
 unfold vo
 rw[if_neg (by omega)]
 simp[Nat.min_eq_left hq]
theorem zG{a q:Nat}(hq:q≤64):C1 a ((q:Nat):Int)=some (a*2 ^ q % 18446744073709551616):=by
 unfold C1
 rw[if_neg (by omega)]
 simp[Nat.min_eq_left hq]
theorem xS{a b:Nat}(h:b≤a)(ha:a<18446744073709551616):yY a b=a-b:=by unfold yY;omega
theorem EB{p h l:Nat}(hp:fQ p)(hh:h<18446744073709551616)(hl:l<18446744073709551616)(c:h≠0∨p<l):ir p (qN p) h l=some (.go (nh p h l,nl p h l)):=by
 have hq:=hp.q
 have hpl:=hp.lt
 unfold ir
 have hx:(bif ((h:Nat):Int) != (0:Int) then some true else some (decide (((l:Nat):Int)>((p:Nat):Int))))=some true:=by
  by_cases h0:h=0
  ·subst h0
   rw[qF (by simp),cF,dT (by omega)]
  ·rw[qT (by omega),cT]
 rw[hx]
 simp only[bS,cT]
 rw[us (by omega),bS,xS (by omega) (by omega),zG (by omega)]
 simp only[bS]
 rw[us (by omega)]
 simp only[bS]
 have e1:xp l p=fm p l:=by rw[zU hl (by omega),LL hp hl]
 have e2:Od (l / 2 ^ qN p) (h*2 ^ (64-qN p) % 18446744073709551616)=fl p h l:=by
  unfold Od
  rw[Nat.mod_eq_of_lt (Nat.lt_of_le_of_lt (Nat.div_le_self ..) hl),Nat.mod_mod]
  exact Oe hp hl
 rw[e1,e2]
 have e3:og (h / 2 ^ qN p) (Iu (fl p h l) (fm p l))=nh p h l:=by
  have:=N9 (p:=p) hp hh hl
  show(fh p h+nc p h l) % _=_
  exact Nat.mod_eq_of_lt this
 rw[e3];rfl
theorem Gf{p h l:Nat}(c:¬(h≠0∨p<l)):ir p (qN p) h l=some (.fin l):=by
 unfold ir
 have h0:h=0:=by omega
 subst h0
 rw[qF (by simp),cF,dF (by omega)]
 simp only[bS,cF]
theorem Ao{p h l:Nat}(hp:fQ p)(hh:h<4611686018427387904)(hl:l<18446744073709551616):nP p h l=some ((h*18446744073709551616+l) % p):=by
 unfold nP
 rw[H6 hp,bS]
 obtain⟨r,e,hr⟩:=kK (step:=λ(st:Nat×Nat)=>ir p (qN p) st.1 st.2)
  (λst=>st.1<4611686018427387904∧st.2<18446744073709551616∧(st.1*18446744073709551616+st.2) % p=(h*18446744073709551616+l) % p)
  (λr=>r≤p∧r % p=(h*18446744073709551616+l) % p) (λst=>LM st.1 st.2) (λst ⟨h1,h2,h3⟩=>by
   by_cases c:st.1≠0∨p<st.2
   ·refine⟨_,EB hp (by omega) h2 c,⟨?_,Lj,?_⟩,IG hp h1 h2 c⟩
    ·by_cases h0:st.1=0
     ·rw[h0]
      show nh p 0 st.2<_
      rw[(GP hp h2 (by omega)).1];omega
     ·have:=GO hp (by omega) h2 h0
      show nh p st.1 st.2<_
      omega
    ·exact Gg hp h3
   ·refine⟨_,Gf c,?_,?_⟩
    ·show st.2≤p;omega
    ·show st.2 % p=_
     rw[←h3]
     have:st.1=0:=by omega
     rw[this];simp) (s:=(h,l)) ⟨hh,hl,rfl⟩ (LN hh hl)
 rw[e,bS]
 by_cases g:r=p
 ·subst g
  rw[zz rfl,cT,←hr.2,Nat.mod_self]
 ·rw[Qr g,cF,←hr.2,Nat.mod_eq_of_lt (by omega)]
theorem MF{a b:Nat}(ha:a<18446744073709551616)(hb:b<18446744073709551616):mn a b=some (a*b / 18446744073709551616,a*b % 18446744073709551616):=by
 unfold mn
 have h32:∀x,x<18446744073709551616→xp x 4294967295=x % 4294967296:=λx hx=>by
  rw[zU hx (by omega)];exact Nat.and_two_pow_sub_one_eq_mod x 32
 have s32:∀x,vo x (32:Int)=some (x / 4294967296):=λx=>us (q:=32) (by omega)
 have l1:∀x y,og x y<18446744073709551616:=λx y=>Nat.mod_lt _ (by decide)
 simp only[bS,s32,h32 a ha,h32 b hb,h32 _ (l1 _ _)]
 have m:=N8 a b
 simp only at m
 have ha1:a / 4294967296<4294967296:=by omega
 have hb1:b / 4294967296<4294967296:=by omega
 have ha0:a % 4294967296<4294967296:=Nat.mod_lt _ (by decide)
 have hb0:b % 4294967296<4294967296:=Nat.mod_lt _ (by decide)
 have c00:=DL ha0 hb0
 have c10:=DL ha1 hb0
 have c01:=DL ha0 hb1
 have c11:=DL ha1 hb1
 have hi:=MI ha hb
 have k1:xD (a % 4294967296) (b % 4294967296)=a % 4294967296*(b % 4294967296):=Nat.mod_eq_of_lt (by omega)
 have k2:xD (a / 4294967296) (b % 4294967296)=a / 4294967296*(b % 4294967296):=Nat.mod_eq_of_lt (by omega)
 have k3:xD (a % 4294967296) (b / 4294967296)=a % 4294967296*(b / 4294967296):=Nat.mod_eq_of_lt (by omega)
 have k4:xD (a / 4294967296) (b / 4294967296)=a / 4294967296*(b / 4294967296):=Nat.mod_eq_of_lt (by omega)
 rw[k1,k2,k3,k4]
 generalize a % 4294967296*(b % 4294967296)=A at *
 generalize a / 4294967296*(b % 4294967296)=B at *
 generalize a % 4294967296*(b / 4294967296)=C at *
 generalize a / 4294967296*(b / 4294967296)=D at *
 have k5:og B (A / 4294967296)=B+A / 4294967296:=Nat.mod_eq_of_lt (by omega)
 rw[k5]
 have k6:og ((B+A / 4294967296) % 4294967296) C=(B+A / 4294967296) % 4294967296+C:=Nat.mod_eq_of_lt (by omega)
 rw[k6]
 have k7:og D ((B+A / 4294967296) / 4294967296)=D+(B+A / 4294967296) / 4294967296:=Nat.mod_eq_of_lt (by omega)
 rw[k7]
 have k8:og (D+(B+A / 4294967296) / 4294967296) (((B+A / 4294967296) % 4294967296+C) / 4294967296)=D+(B+A / 4294967296) / 4294967296+((B+A / 4294967296) % 4294967296+C) / 4294967296:=Nat.mod_eq_of_lt (by omega)
 rw[k8,m]
 rfl
theorem jm{p a b:Nat}(hp:fQ p)(ha:a<p)(hb:b<p):dj p a b=some (a*b % p):=by
 have hl:=hp.lt
 unfold dj
 rw[MF (by omega) (by omega),bS]
 have h1:a*b≤2305843009213693951*2305843009213693951:=Nat.mul_le_mul (by omega) (by omega)
 have h2:a*b / 18446744073709551616<4611686018427387904:=by omega
 have h3:a*b % 18446744073709551616<18446744073709551616:=Nat.mod_lt _ (by decide)
 rw[Ao hp h2 h3]
 simp only[bS]
 congr 2
 have:=Nat.div_add_mod (a*b) 18446744073709551616
 rw[Nat.mul_comm] at this
 exact this
theorem wm{p a b:Nat}(hp:fQ p)(h:a+b<18446744073709551616):lz p a b=some ((a+b) % p):=by
 unfold lz
 have:og a b=a+b:=Nat.mod_eq_of_lt h
 rw[this]
 simp only[bS]
 rw[Ao hp (by decide) h]
 simp only[bS,Nat.zero_mul,Nat.zero_add]
theorem zu{p a:Nat}(hp:fQ p)(h:a<18446744073709551616):nb p a=some (a % p):=by
 unfold nb
 rw[Ao hp (by decide) h]
 simp only[bS,Nat.zero_mul,Nat.zero_add]
theorem Av{p a:Nat}(hp:fQ p)(h:a<p):mL p a=some ((p-a) % p):=by
 have hl:=hp.lt
 unfold mL
 by_cases g:a=0
 ·subst g;rw[eT (by simp),cT];simp
 ·rw[eF (by omega),cF,xS (by omega) (by omega)]
  simp only[bS]
  rw[Nat.mod_eq_of_lt (by omega)]
theorem yJ{p a b:Nat}(hp:fQ p)(ha:a<p)(hb:b<p):mM p a b=some ((a+(p-b) % p) % p):=by
 have hl:=hp.lt
 have:=Nat.mod_lt (p-b) hp.pos
 unfold mM
 rw[Av hp hb,bS,wm hp (by omega),bS]
theorem MO{p a n:Nat}(hp:fQ p)(ha:a<p)(hn:n<18446744073709551616):uh p a n=some (a ^ n % p):=by
 have hl:=hp.lt
 unfold uh
 obtain⟨r,e,hr⟩:=kK (step:=λ(st:Nat×Nat×Nat)=>na p st.1 st.2.1 st.2.2)
  (λst=>st.1<p∧st.2.1<18446744073709551616∧st.2.2<p∧st.2.2*st.1 ^ st.2.1 % p=a ^ n % p)
  (λr=>r=a ^ n % p) (λst=>st.2.1) (λst ⟨h1,h2,h3,h4⟩=>by
   obtain⟨x,m,o⟩:=st
   simp only at h1 h2 h3 h4
   unfold na
   by_cases c:m=0
   ·subst c
    rw[dF (by simp),cF]
    refine⟨_,rfl,?_⟩
    show o=_
    rw[←h4];simp[Nat.mod_eq_of_lt h3]
   ·rw[dT (by simp;omega),cT]
    have a1:xp m 1=m % 2:=by rw[zU h2 (by decide)];exact Nat.and_two_pow_sub_one_eq_mod m 1
    have s1:vo m (1:Int)=some (m / 2):=us (q:=1) (by omega)
    rw[bS,a1]
    by_cases g:m % 2=1
    ·rw[eT (by omega),cT,jm hp h3 h1,bS,jm hp h1 h1,bS,s1,bS]
     exact⟨_,rfl,⟨Nat.mod_lt _ hp.pos,by show m / 2<_;omega,Nat.mod_lt _ hp.pos,pow_odd h4 g⟩,by show m / 2<m;omega⟩
    ·rw[eF (by omega),cF,jm hp h1 h1,bS,s1,bS]
     exact⟨_,rfl,⟨Nat.mod_lt _ hp.pos,by show m / 2<_;omega,h3,pow_even h4 (by omega)⟩,by show m / 2<m;omega⟩)
  (s:=(a,n,1)) ⟨ha,hn,(show(1:Nat)<p by omega),by simp⟩ hn
 rw[e,bS,hr]
theorem CJ{p a:Nat}(hp:fQ p)(ha:a<p)(h0:a≠0):kw p a=some (Hd p a (p-2),0):=by
 have hl:=hp.lt
 unfold kw
 rw[eF (by omega),cF,xS (by omega) (by omega)]
 simp only[bS]
 rw[MO hp ha (by omega),bS]
 rfl
theorem yy{p a b:Nat}[NeZero p](hb:b<p):o p ((a+(p-b) % p) % p)=o p a-o p b:=by
 rw[lc,ze,lc,Lk (by omega),GX];grind
theorem GW{p b:Nat}[NeZero p](hb:b<p):o p ((p-b) % p) = - o p b:=by
 rw[lc,Lk (by omega),GX];grind
end Pu

/- Plain laws of the elimination. -/
set_option linter.unusedVariables false
namespace Pu
open Gw Gl Sp Lean.Grind
structure qR(p h n:Nat)(l:List (List Nat)):Prop where
 len:l.length=h
 row:∀i,i<h→(l.getD i []).length=n
 lt:∀i,i<h→∀j,j<n→(l.getD i []).getD j 0<p
def G(p:Nat)[NeZero p](l:List (List Nat))(i j:Nat):Fin p:=o p ((l.getD i []).getD j 0)
theorem vG{l:List Nat}(h:l.length≤1000):cz l=some l:=by
 unfold cz
 rw[aM (by simp;omega) (by simp;omega),bS,List.nil_append]
theorem rb{l:List (List Nat)}(h:l.length≤1000):cc l=some l:=by
 unfold cc
 rw[aM (by simp;omega) (by simp;omega),bS,List.nil_append]
theorem qO{α:Type}{l:List α}{k:Nat}{d:α}(h:k<l.length):l.set k (l.getD k d)=l:=by
 apply List.ext_getElem?
 intro i
 rw[List.getElem?_set]
 split
 ·next e =>
  subst e
  simp[h]
 ·rfl
theorem qR.some{p h n i:Nat}{l:List (List Nat)}(m:qR p h n l)(hi:i<h):l[i]?=some (l.getD i []):=ix [] (by rw[m.len];exact hi)
theorem rd{p h n i j:Nat}{l:List (List Nat)}(m:qR p h n l)(hi:i<h)(hj:j<n):(l.getD i [])[j]?=some ((l.getD i []).getD j 0):=ix 0 (by rw[m.row i hi];exact hj)
theorem qR.setRow{p h n i:Nat}{l:List (List Nat)}{r:List Nat}(m:qR p h n l)(hi:i<h)(hl:r.length=n)(hr:∀j,j<n→r.getD j 0<p):qR p h n (l.set i r):=by
 have hil:i<l.length:=by rw[m.len];exact hi
 refine⟨by rw[List.length_set];exact m.len,λk hk=>?_,λk hk j hj=>?_⟩
 ·rw[aN hil];split
  ·exact hl
  ·exact m.row k hk
 ·rw[aN hil];split
  ·exact hr j hj
  ·exact m.lt k hk j hj
section
variable {p:Nat}[NeZero p]{h n:Nat}
/-- the pivot's row is scaled -/
theorem HC(hp:fQ p){l8:List (List Nat)}{l5:List Int}{u:Nat}{e:Int}(m:qR p h n l8)(hr:l5.length<h)(hu:u<p) :
  ∃l,cZ (λk3 (st:(List (List Nat)))=>lD p l5 (l8.getD l5.length []) (u,e) k3 st) n 0 l8=some l∧qR p h n l∧(∀i,i<h→i≠l5.length→l.getD i []=l8.getD i [])∧∀j,j<n→G p l l5.length j=o p u*G p l8 l5.length j:=by
 have hrl:=m.row _ hr
 obtain⟨l,e,m1,h1,h2,_⟩:=bm (body:=λk3 (st:(List (List Nat)))=>lD p l5 (l8.getD l5.length []) (u,e) k3 st) (rem:=n) (k:=0) (s:=l8)
  (λk l=>qR p h n l∧(∀i,i<h→i≠l5.length→l.getD i []=l8.getD i [])∧(∀j,j<k→j<n→G p l l5.length j=o p u*G p l8 l5.length j)∧(∀j,k≤j→(l.getD l5.length []).getD j 0=(l8.getD l5.length []).getD j 0))
  ⟨m,λ_ _ _=>rfl,λj hj=>by omega,λ_ _=>rfl⟩ (λk l _ hk ⟨m1,h1,h2,h3⟩=>by
   have hk':k<n:=by omega
   unfold lD
   rw[rd m hr hk',bS,m1.some hr,bS,rd m1 hr hk',bS,jm hp hu (m1.lt _ hr _ hk'),bS,bS,bS]
   have hrl1:=m1.row _ hr
   have hll:l5.length<l.length:=by rw[m1.len];exact hr
   refine⟨_,rfl,m1.setRow hr (by rw[List.length_set];exact hrl1) (λj hj=>?_),λi hi hne=>?_,λj hj hjn=>?_,λj hj=>?_⟩
   ·rw[aN (by rw[hrl1];exact hk')];split
    ·exact Nat.mod_lt _ hp.pos
    ·exact m1.lt _ hr _ hj
   ·rw[aN hll,if_neg (λe=>hne e.symm)];exact h1 i hi hne
   ·show o p (((l.set _ _).getD l5.length []).getD j 0)=_
    rw[aN hll,if_pos rfl,aN (by rw[hrl1];exact hk')]
    by_cases g:k=j
    ·subst g
     rw[if_pos rfl,lc,nC,h3 k (Nat.le_refl k)];rfl
    ·rw[if_neg g];exact h2 j (by omega) hjn
   ·rw[aN hll,if_pos rfl,aN (by rw[hrl1];exact hk'),if_neg (by omega)];exact h3 j (by omega))
 exact⟨l,e,m1,h1,λj hj=>h2 j (by omega) hj⟩
/-- one row is cleared -/
theorem FH(hp:fQ p){l:List (List Nat)}{l5:List Int}{i c:Nat}(m:qR p h n l)(hr:l5.length<h)(hi:i<h)(hne:i≠l5.length)(hc:c<n) :
  ∃l',cZ (λk5 (st:(List (List Nat)))=>lF p l5 i (l.getD i []) ((l.getD i []).getD c 0) (l.getD l5.length []) k5 st) n 0 l=some l'∧qR p h n l'∧(∀k,k<h→k≠i→l'.getD k []=l.getD k [])∧∀j,j<n→G p l' i j=G p l i j-G p l i c*G p l l5.length j:=by
 have hil:=m.row _ hi
 obtain⟨l',e,m1,h1,h2,_⟩:=bm (body:=λk5 (st:(List (List Nat)))=>lF p l5 i (l.getD i []) ((l.getD i []).getD c 0) (l.getD l5.length []) k5 st) (rem:=n) (k:=0) (s:=l)
  (λk l'=>qR p h n l'∧(∀k,k<h→k≠i→l'.getD k []=l.getD k [])∧(∀j,j<k→j<n→G p l' i j=G p l i j-G p l i c*G p l l5.length j)∧(∀j,k≤j→(l'.getD i []).getD j 0=(l.getD i []).getD j 0))
  ⟨m,λ_ _ _=>rfl,λj hj=>by omega,λ_ _=>rfl⟩ (λk l' _ hk ⟨m1,h1,h2,h3⟩=>by
   have hk':k<n:=by omega
   have hil1:=m1.row _ hi
   have hll:i<l'.length:=by rw[m1.len];exact hi
   unfold lF
   rw[rd m hr hk',bS,m1.some hr,bS,h1 _ hr (λe=>hne e.symm),rd m hr hk',bS,rd m hi hk',bS,m1.some hi,bS,rd m1 hi hk',bS,jm hp (m.lt _ hi _ hc) (m.lt _ hr _ hk'),bS,yJ hp (m1.lt _ hi _ hk') (Nat.mod_lt _ hp.pos),bS,bS,bS]
   refine⟨_,rfl,m1.setRow hi (by rw[List.length_set];exact hil1) (λj hj=>?_),λq hq hqi=>?_,λj hj hjn=>?_,λj hj=>?_⟩
   ·rw[aN (by rw[hil1];exact hk')];split
    ·exact Nat.mod_lt _ hp.pos
    ·exact m1.lt _ hi _ hj
   ·rw[aN hll,if_neg (λe=>hqi e.symm)];exact h1 q hq hqi
   ·show o p (((l'.set _ _).getD i []).getD j 0)=_
    rw[aN hll,if_pos rfl,aN (by rw[hil1];exact hk')]
    by_cases g:k=j
    ·subst g
     rw[if_pos rfl,yy (Nat.mod_lt _ hp.pos),lc,nC,h3 k (Nat.le_refl k)];rfl
    ·rw[if_neg g];exact h2 j (by omega) hjn
   ·rw[aN hll,if_pos rfl,aN (by rw[hil1];exact hk'),if_neg (by omega)];exact h3 j (by omega))
 exact⟨l',e,m1,h1,λj hj=>h2 j (by omega) hj⟩
/-- all other rows are cleared -/
theorem HJ(hp:fQ p){l:List (List Nat)}{l5:List Int}{c:Nat}(m:qR p h n l)(hr:l5.length<h)(hc:c<n)(hn:n≤1000) :
  ∃l',cZ (λk4 (st:(List (List Nat)))=>lE p l5 c k4 st) h 0 l=some l'∧qR p h n l'∧(∀j,j<n→G p l' l5.length j=G p l l5.length j)∧∀i,i<h→i≠l5.length→∀j,j<n→G p l' i j=G p l i j-G p l i c*G p l l5.length j:=by
 obtain⟨l',e,m1,h1,h2,h3⟩:=bm (body:=λk4 (st:(List (List Nat)))=>lE p l5 c k4 st) (rem:=h) (k:=0) (s:=l)
  (λk l'=>qR p h n l'∧(l'.getD l5.length []=l.getD l5.length [])∧(∀i,i<k→i<h→i≠l5.length→∀j,j<n→G p l' i j=G p l i j-G p l i c*G p l l5.length j)∧(∀i,k≤i→l'.getD i []=l.getD i []))
  ⟨m,rfl,λi hi=>by omega,λ_ _=>rfl⟩ (λk l' _ hk ⟨m1,h1,h2,h3⟩=>by
   have hk':k<h:=by omega
   unfold lE
   rw[m1.some hk',bS]
   by_cases g:k=l5.length
   ·rw[eT (by omega),cT,bS,cT]
    refine⟨_,rfl,m1,h1,λi hi hih hne j hj=>h2 i (by omega) hih hne j hj,λi hi=>h3 i (by omega)⟩
   ·rw[eF (by omega),cF,rd m1 hk' hc,bS,bS]
    by_cases g2:(l'.getD k []).getD c 0=0
    ·rw[eT (by omega),cT]
     refine⟨_,rfl,m1,h1,λi hi hih hne j hj=>?_,λi hi=>h3 i (by omega)⟩
     by_cases e:i=k
     ·subst e
      have z:G p l i c=0:=by
       show o p ((l.getD i []).getD c 0)=0
       rw[←h3 i (Nat.le_refl i),g2,lf]
      have y:G p l' i j=G p l i j:=by
       show o p ((l'.getD i []).getD j 0)=o p ((l.getD i []).getD j 0)
       rw[h3 i (Nat.le_refl i)]
      rw[z,y];grind
     ·exact h2 i (by omega) hih hne j hj
    ·rw[eF (by omega),cF,bS,m1.some hr,bS,m1.row _ hr,bJ (by omega),bS]
     obtain⟨l2,e2,m2,k1,k2⟩:=FH hp (l5:=l5) (i:=k) (c:=c) m1 hr hk' g hc
     rw[Nat.sub_zero,e2,bS]
     refine⟨_,rfl,m2,?_,λi hi hih hne j hj=>?_,λi hi=>?_⟩
     ·rw[k1 _ hr (λe=>g e.symm)];exact h1
     ·by_cases e:i=k
      ·subst e
       rw[k2 j hj]
       have y:∀q,G p l' i q=G p l i q:=λq=>by
        show o p ((l'.getD i []).getD q 0)=o p ((l.getD i []).getD q 0)
        rw[h3 i (Nat.le_refl i)]
       have y2:G p l' l5.length j=G p l l5.length j:=by
        show o p ((l'.getD l5.length []).getD j 0)=o p ((l.getD l5.length []).getD j 0)
        rw[h1]
       rw[y,y,y2]
      ·have:=h2 i (by omega) hih hne j hj
       rw[←this]
       show o p ((l2.getD i []).getD j 0)=o p ((l'.getD i []).getD j 0)
       rw[k1 i hih e]
     ·by_cases hih:i<h
      ·rw[k1 i hih (by omega)];exact h3 i (by omega)
      ·have a1:l2.length≤i:=by rw[m2.len];omega
       have a2:l.length≤i:=by rw[m.len];omega
       rw[List.getD_eq_getElem?_getD,List.getElem?_eq_none a1,List.getD_eq_getElem?_getD,List.getElem?_eq_none a2])
 exact⟨l',e,m1,λj hj=>by show o p ((l'.getD l5.length []).getD j 0)=o p ((l.getD l5.length []).getD j 0);rw[h1],λi hi hne j hj=>h2 i (by omega) hi hne j hj⟩
end
/-- the search for a pivot -/
theorem find_ok{p h n:Nat}{l:List (List Nat)}{r c:Nat}(m:qR p h n l)(hr:r≤h)(hc:c<n)(hh:h≤1000) :
  ∃x,vM (λ(st:Int×Int)=>iw l c st.1 st.2) big ((-1),((r:Nat):Int))=some x∧((x = -1∧∀i,r≤i→i<h→(l.getD i []).getD c 0=0)∨∃a:Nat,x=a∧r≤a∧a<h∧(l.getD a []).getD c 0≠0):=by
 obtain⟨x,e,hx⟩:=kK (step:=λ(st:Int×Int)=>iw l c st.1 st.2)
  (λst=>∃k:Nat,st.2=k∧k≤h∧((st.1 = -1∧r≤k∧∀i,r≤i→i<k→(l.getD i []).getD c 0=0)∨∃a:Nat,st.1=a∧r≤a∧a<h∧(l.getD a []).getD c 0≠0))
  (λx=>(x = -1∧∀i,r≤i→i<h→(l.getD i []).getD c 0=0)∨∃a:Nat,x=a∧r≤a∧a<h∧(l.getD a []).getD c 0≠0)
  (λst=>h-st.2.toNat) (λst ⟨k,h1,h2,h3⟩=>by
   obtain⟨x6,x7⟩:=st
   simp only at h1 h3
   subst h1
   unfold iw
   rw[m.len]
   by_cases c1:k<h
   ·rw[dT (by omega),cT]
    rcases h3 with ⟨rfl,g1,g2⟩ | ⟨a,rfl,g⟩
    ·rw[dT (by omega),bS,cT,aS [] (by omega) (by rw[m.len];omega),bS]
     simp only[Int.toNat_natCast]
     rw[rd m c1 hc,bS]
     by_cases z:(l.getD k []).getD c 0=0
     ·rw[qF (by omega),cF,bi (by omega) (by omega),bS]
      refine⟨_,rfl,⟨k+1,rfl,by omega,.inl ⟨rfl,by omega,λi hi1 hi2=>?_⟩⟩,by show h-((k:Int)+1).toNat<h-((k:Int)).toNat;omega⟩
      by_cases e:i=k
      ·subst e;exact z
      ·exact g2 i hi1 (by omega)
     ·rw[qT (by omega),cT,bi (by omega) (by omega),bS]
      exact⟨_,rfl,⟨k+1,rfl,by omega,.inr ⟨k,rfl,g1,c1,z⟩⟩,by show h-((k:Int)+1).toNat<h-((k:Int)).toNat;omega⟩
    ·rw[dF (by omega),bS,cF]
     exact⟨_,rfl,.inr ⟨a,rfl,g⟩⟩
   ·rw[dF (by omega),cF,bS,cF]
    refine⟨_,rfl,?_⟩
    rcases h3 with ⟨rfl,g1,g2⟩ | g
    ·exact .inl ⟨rfl,λi hi1 hi2=>g2 i hi1 (by omega)⟩
    ·exact .inr g) (s:=((-1),((r:Nat):Int))) ⟨r,rfl,hr,.inl ⟨rfl,Nat.le_refl r,λi a b=>by omega⟩⟩ (by show h-_<_;omega)
 exact⟨x,e,hx⟩
section
variable {p:Nat}[NeZero p]{h n:Nat}
def pv(l5:List Int)(r:Nat):Nat:=(l5.getD r 0).toNat
/-- one column -/
theorem FJ (hp:fQ p) {M0:Nat→Nat→Fin p} {l4:List (List Nat)} {l5:List Int} {c x3 W:Nat} (hW:n < W) (hW9:W≤1000) (m:qR p h W l4) (hc:c < n) (hn:n≤900) (hh:h≤900) (h5:l5.length≤h) (hx:x3 < p)
    (h0:∀ r,r < l5.length→l5.getD r 0=((pv l5 r:Nat):Int)) (red:wk h n M0 (G p l4) l5.length (pv l5) c) :
    ∃ l l' x,iv p c l4 l5 x3=some (l,l',x)∧qR p h W l∧l'.length≤h∧x < p∧(∀ r,r < l'.length→l'.getD r 0=((pv l' r:Nat):Int))∧wk h n M0 (G p l) l'.length (pv l') (c+1):=by
  unfold iv
  obtain ⟨x9,e9,hx9⟩:=find_ok (c:=c) m h5 (by omega) (by omega)
  rw [e9,bS]
  rcases hx9 with ⟨rfl,hz⟩ | ⟨a,rfl,a1,a2,a3⟩
  · rw [dT (by omega),cT]
    exact ⟨_,_,_,rfl,m,h5,hx,h0,red.skip hc fun i hi1 hi2=>by show o p _=0;rw [hz i hi1 hi2,lf]⟩
  · rw [dF (by omega),cF]
    have hr:l5.length < h:=by omega
    -- the rows as they stand behind the swap
    obtain ⟨l8,x15,e8,m8,hx15,r8⟩:∃ l8 x15,(bif ((a:Nat):Int) != ((l5.length:Nat):Int) then
        l4[l5.length]? >>= fun x16 =>
        gY l4 ((a:Nat):Int) >>= fun x17 =>
        some ((l4.set ((a:Nat):Int).toNat x16).set l5.length x17) >>= fun l9 =>
        mL p x3 >>= fun r6 =>
        some (l9,r6)
      else
        some (l4,x3))=some (l8,x15)∧qR p h W l8∧x15 < p∧∀ i,i < h→l8.getD i []=if i=l5.length then l4.getD a [] else if i=a then l4.getD l5.length [] else l4.getD i []:=by
      by_cases e:a=l5.length
      · rw [qF (by omega),cF]
        refine ⟨_,_,rfl,m,hx,fun i hi=>?_⟩
        subst e
        by_cases g:i=l5.length
        · rw [if_pos g,g]
        · rw [if_neg g,if_neg g]
      · rw [qT (by omega),cT,m.some hr,bS,aS [] (by omega) (by rw [m.len];omega),bS,bS,Av hp hx,bS]
        simp only [Int.toNat_natCast]
        have m1:=m.setRow (i:=a) a2 (m.row _ hr) (m.lt _ hr)
        have m2:=m1.setRow (i:=l5.length) hr (m.row _ a2) (m.lt _ a2)
        refine ⟨_,_,rfl,m2,Nat.mod_lt _ hp.pos,fun i hi=>?_⟩
        rw [aN (by rw [List.length_set,m.len];exact hr),aN (by rw [m.len];exact a2)]
        by_cases g:i=l5.length
        · rw [if_pos g.symm,if_pos g]
        · rw [if_neg (fun e=>g e.symm),if_neg g]
          by_cases g2:i=a
          · rw [if_pos g2.symm,if_pos g2]
          · rw [if_neg (fun e=>g2 e.symm),if_neg g2]
    rw [e8,bS]
    simp only
    have hcn:c < W:=by omega
    have hgc:(l8.getD l5.length []).getD c 0=(l4.getD a []).getD c 0:=by rw [r8 _ hr,if_pos rfl]
    have hlt:(l4.getD a []).getD c 0 < p:=m.lt _ a2 _ hcn
    rw [m8.some hr,bS,rd m8 hr hcn,bS,hgc,jm hp hx15 hlt,bS,CJ hp hlt a3,bS,m8.row _ hr,bJ (by omega),bS,Nat.sub_zero]
    obtain ⟨l11,e11,m11,s1,s2⟩:=HC (e:=0) hp (l5:=l5) m8 hr (He (a:=(l4.getD a []).getD c 0) (b:=p - 2) hp)
    rw [e11,bS,m11.len,Nat.sub_zero]
    obtain ⟨l15,e15,m15,t1,t2⟩:=HJ hp (l5:=l5) m11 hr hcn (by omega)
    rw [e15,bS,aM (by simp;omega) (by simp;omega),bS]
    have hpv:∀ r,r < l5.length→pv (l5++[((c:Nat):Int)]) r=pv l5 r:=fun r hr=>by
      unfold pv;rw [List.getD_eq_getElem?_getD,List.getElem?_append_left hr,← List.getD_eq_getElem?_getD]
    have hpc:pv (l5++[((c:Nat):Int)]) l5.length=c:=by unfold pv;simp
    refine ⟨_,_,_,rfl,m15,by simp;omega,Nat.mod_lt _ hp.pos,fun r hr2=>?_,?_⟩
    · simp only [List.length_append,List.length_cons,List.length_nil] at hr2
      by_cases g:r=l5.length
      · subst g;rw [hpc];simp
      · rw [hpv r (by omega),← h0 r (by omega)]
        rw [List.getD_eq_getElem?_getD,List.getElem?_append_left (by omega),← List.getD_eq_getElem?_getD]
    · have red2:wk h n M0 (G p l4) l5.length (pv (l5++[((c:Nat):Int)])) c :=
        ⟨red.sol,red.len,fun s hs=>by rw [hpv s hs];exact red.lt s hs,red.cn,fun s hs i hi=>by rw [hpv s hs];exact red.unit s hs i hi,red.low⟩
      have G8:∀ i,i < h→∀ j,G p l8 i j=if i=l5.length then G p l4 a j else if i=a then G p l4 l5.length j else G p l4 i j:=fun i hi j=>by
        show o p ((l8.getD i []).getD j 0)=_
        rw [r8 i hi]
        split
        · rfl
        · split <;> rfl
      have G11:∀ i,i < h→i≠l5.length→∀ j,G p l11 i j=G p l8 i j:=fun i hi hne j=>by
        show o p ((l11.getD i []).getD j 0)=o p ((l8.getD i []).getD j 0)
        rw [s1 i hi hne]
      have red3:=red2.pivot hc hp.one a1 a2 (u:=o p (Hd p ((l4.getD a []).getD c 0) (p - 2))) (M':=G p l15)
        (hp.oinv (by rw [Nat.mod_eq_of_lt hlt];exact a3)) hpc
        (fun j hj=>by rw [t1 j (by omega),s2 j (by omega),G8 _ hr,if_pos rfl])
        (fun i hi hne j hj=>by
          rw [t2 i hi hne j (by omega),t1 j (by omega),G11 i hi hne,G11 i hi hne,G8 i hi,G8 i hi,if_neg hne,if_neg hne]
          )
      rw [List.length_append]
      exact red3
/-- all columns -/
theorem Hr(hp:fQ p){l:List (List Nat)}{W:Nat}(hW:n<W)(hW9:W≤1000)(m:qR p h W l)(hn:n≤900)(hh:h≤900) :
  ∃w,lZ p l ((n:Nat):Int)=some w∧qR p h W w.zm∧w.zpivot.length≤h∧(∀r,r<w.zpivot.length→w.zpivot.getD r 0=((pv w.zpivot r:Nat):Int))∧wk h n (G p l) (G p w.zm) w.zpivot.length (pv w.zpivot) n:=by
 unfold lZ
 rw[rb (by rw[m.len];omega),bS,m.len,bJ (by omega),bS,Nat.sub_zero]
 obtain⟨l2,e2,h2⟩:=bm (body:=λk1 (st:(List (List Nat)))=>nQ k1 st) (rem:=h) (k:=0) (s:=l) (λ_ l'=>l'=l) rfl (λk l' _ hk he=>by
  subst he
  unfold nQ
  rw[m.some (by omega),bS,vG (by rw[m.row _ (by omega)];omega),bS,bS]
  exact⟨_,rfl,qO (by rw[m.len];omega)⟩)
 subst h2
 rw[e2,bS]
 have hmx:max 0 ((n:Nat):Int).toNat=n:=by simp
 rw[hmx,bJ (by omega),bS,Nat.sub_zero]
 obtain⟨st,e,h1,h2,h3,h4,h5⟩:=bm (body:=λk2 (st:(List (List Nat))×(List Int)×Nat)=>iv p k2 st.1 st.2.1 st.2.2) (rem:=n) (k:=0) (s:=(l2,([]:List Int),1))
  (λc st=>qR p h W st.1∧st.2.1.length≤h∧st.2.2<p∧(∀r,r<st.2.1.length→st.2.1.getD r 0=((pv st.2.1 r:Nat):Int))∧wk h n (G p l2) (G p st.1) st.2.1.length (pv st.2.1) c)
  ⟨m,by simp,by have:=hp.lt;show 1<p;omega,λr hr=>by simp at hr,wk.start⟩ (λc st _ hc ⟨h1,h2,h3,h4,h5⟩=>by
   obtain⟨l,l',x,e,k1,k2,k3,k4,k5⟩:=FJ hp hW hW9 h1 (by omega) hn hh h2 h3 h4 h5
   exact⟨_,e,k1,k2,k3,k4,k5⟩)
 rw[e,bS]
 rw[Nat.zero_add] at h5
 exact⟨_,rfl,h1,h2,h4,h5⟩
theorem CV(hp:fQ p){l:List (List Nat)}(m:qR p h (n+1) l)(hn:n≤900)(hh:h≤900) :
  ∃w,lZ p l ((n:Nat):Int)=some w∧qR p h (n+1) w.zm∧w.zpivot.length≤h∧(∀r,r<w.zpivot.length→w.zpivot.getD r 0=((pv w.zpivot r:Nat):Int))∧wk h n (G p l) (G p w.zm) w.zpivot.length (pv w.zpivot) n:=Hr hp (Nat.lt_succ_self n) (by omega) m hn hh
end
end Pu

/- Plain laws of solving linear equations. -/
set_option linter.unusedVariables false
namespace Pu
open Gw Gl Sp Lean.Grind
theorem cA{α:Type}{a b:List α}{i:Nat}{d:α}(h:i<a.length):(a++b).getD i d=a.getD i d:=by
 rw[List.getD_eq_getElem?_getD,List.getElem?_append_left h,←List.getD_eq_getElem?_getD]
theorem df{α:Type}{a:List α}{x d:α}{i:Nat}(h:i=a.length):(a++[x]).getD i d=x:=by
 subst h;simp[List.getD_eq_getElem?_getD]
theorem Kw{p h n:Nat}{m:List (List Nat)}(hm:qR p h n m)(h0:0<h):qs m=some true:=by
 unfold qs cV dc
 rw[hm.len,Nat.sub_zero]
 obtain⟨o,e,ho⟩:=im (body:=λk1 (st:Unit)=>cW m m k1) (λ_ _=>True) (λ_=>False) (rem:=h) (k:=0) (s:=()) trivial (λk _ _ hk _=>by
  unfold cW qL
  rw[hm.some (show k<h by omega),bS,hm.some h0,bS,bS,hm.row _ (by omega),hm.row _ h0,qF rfl,cF]
  exact⟨_,rfl,trivial⟩)
 rw[e]
 cases o with
 | fin r=>exact ho.elim
 | go s=>rw[bS,oG,bS,dF (by omega),bS,nF]
theorem Iz{p h n:Nat}{m:List (List Nat)}(hm:qR p h n m)(h0:0<h):qq m=some ((n:Nat):Int):=by
 unfold qq
 rw[hm.len,eF (by omega),cF,hm.some h0,bS,hm.row _ h0]
section
variable {p:Nat}[NeZero p]{h n:Nat}
theorem K2{m:List (List Nat)}{b:List Nat}(hm:qR p h n m)(hb:b.length=h)(hbp:∀i,i<h→b.getD i 0<p)(hn:n≤900)(hh:h≤900) :
  ∃l,cZ (λk1 (st:(List (List Nat)))=>mo m b k1 st) h 0 ([]:List (List Nat))=some l∧qR p h (n+1) l∧(∀i,i<h→∀j,j<n→G p l i j=G p m i j)∧∀i,i<h→G p l i n=o p (b.getD i 0):=by
 obtain⟨l,e,h1,h2⟩:=bm (body:=λk1 (st:(List (List Nat)))=>mo m b k1 st) (rem:=h) (k:=0) (s:=([]:List (List Nat)))
  (λk l=>l.length=k∧∀i,i<k→l.getD i []=m.getD i []++[b.getD i 0]) ⟨rfl,λi hi=>by omega⟩ (λk l _ hk ⟨h1,h2⟩=>by
   have hk':k<h:=by omega
   unfold mo
   rw[hm.some hk',bS,vG (by rw[hm.row _ hk'];omega),bS,ix 0 (by omega),bS,aM (by rw[hm.row _ hk'];simp;omega) (by rw[hm.row _ hk'];simp;omega),bS,aM (by simp;omega) (by simp;omega),bS]
   refine⟨_,rfl,by simp[h1],λi hi=>?_⟩
   by_cases g:i=k
   ·subst g;exact df h1.symm
   ·rw[cA (by omega)];exact h2 i (by omega))
 rw[Nat.zero_add] at h1 h2
 have hr:∀i,i<h→∀j,(l.getD i []).getD j 0=if j<n then(m.getD i []).getD j 0 else if j=n then b.getD i 0 else(l.getD i []).getD j 0:=λi hi j=>by
  have hl:=hm.row _ hi
  split
  ·next g=>rw[h2 i hi,cA (by omega)]
  ·split
   ·next g=>rw[h2 i hi,df (by omega)]
   ·rfl
 refine⟨l,e,⟨h1,λi hi=>by rw[h2 i hi,List.length_append,hm.row _ hi];rfl,λi hi j hj=>?_⟩,λi hi j hj=>?_,λi hi=>?_⟩
 ·rw[hr i hi]
  by_cases g:j<n
  ·rw[if_pos g];exact hm.lt i hi j g
  ·rw[if_neg g,if_pos (by omega)];exact hbp i hi
 ·show o p _=o p _;rw[hr i hi,if_pos hj]
 ·show o p _=o p _;rw[hr i hi,if_neg (by omega),if_pos rfl]
theorem HG(hp:fQ p){m:List (List Nat)}{b:List Nat}(hm:qR p h n m)(h0:0<h)(hb:b.length=h)(hbp:∀i,i<h→b.getD i 0<p)(hn:n≤900)(hh:h≤900){M:Nat→Nat→Fin p}(hM:∀i,i<h→∀j,j<n→M i j=G p m i j)(hMb:∀i,i<h→M i n=o p (b.getD i 0)) :
  ∃v e,pk p m b=some (v,e)∧((e=0∧v.length=n∧(∀j,j<n→v.getD j 0<p)∧K6 h n M (λj=>o p (v.getD j 0)))∨(e=6∧∀v,¬K6 h n M v)):=by
 unfold pk
 rw[Kw hm h0,bS,nT,cF,hm.len,hb,qF rfl,bS,cF,Iz hm h0,bS,Nat.sub_zero]
 obtain⟨l,e1,w1,w2,w3⟩:=K2 hm hb hbp hn hh
 rw[e1,bS]
 obtain⟨w,e2,m2,k2,p2,red⟩:=CV hp w1 hn hh
 have red':wk h n M (G p w.zm) w.zpivot.length (pv w.zpivot) n:=by
  refine⟨λv=>?_,red.len,red.lt,red.cn,red.unit,red.low⟩
  rw[←red.sol]
  constructor
  ·intro g i hi
   rw[w3 i hi,←hMb i hi,←g i hi]
   exact px λj hj=>by rw[w2 i hi j hj,hM i hi j hj]
  ·intro g i hi
   rw[hMb i hi,←w3 i hi,←g i hi]
   exact px λj hj=>by rw[w2 i hi j hj,hM i hi j hj]
 rw[e2,bS,m2.len,eG (by omega) (by omega) (by rw[m2.len];omega),bS]
 simp only[Int.toNat_natCast]
 have hl5:((w.zm.drop w.zpivot.length).take (h-w.zpivot.length)).length=h-w.zpivot.length:=by rw[List.length_take,List.length_drop,m2.len];omega
 have h5g:∀i,i<h-w.zpivot.length→((w.zm.drop w.zpivot.length).take (h-w.zpivot.length))[i]?=some (w.zm.getD (w.zpivot.length+i) []):=λi hi=>by
  rw[List.getElem?_take,if_pos hi,List.getElem?_drop]
  exact m2.some (by omega)
 rw[hl5,Nat.sub_zero]
 generalize (w.zm.drop w.zpivot.length).take (h-w.zpivot.length)=l5 at *
 obtain⟨o1,e3,ho⟩:=im (body:=λk2 (st:Unit)=>oX ((n:Nat):Int) l5 k2) (λk _=>∀i,w.zpivot.length≤i→i<w.zpivot.length+k→G p w.zm i n=0) (λr=>r=(([]:List Nat),((6:Nat):Int))∧∃i,w.zpivot.length≤i∧i<h∧G p w.zm i n≠0) (rem:=h-w.zpivot.length) (k:=0) (s:=()) (λi h1 h2=>by omega) (λk _ _ hk hi=>by
  unfold oX
  have hkh:w.zpivot.length+k<h:=by omega
  rw[h5g k (by omega),bS,aS 0 (by omega) (by rw[m2.row _ hkh];omega),bS]
  simp only[Int.toNat_natCast]
  by_cases z:(w.zm.getD (w.zpivot.length+k) []).getD n 0=0
  ·rw[qF (by omega),cF]
   refine⟨_,rfl,λi h1 h2=>?_⟩
   by_cases g:i=w.zpivot.length+k
   ·subst g;show o p _=0;rw[z,lf]
   ·exact hi i h1 (by omega)
  ·rw[qT (by omega),cT]
   refine⟨_,rfl,rfl,w.zpivot.length+k,by omega,hkh,λe=>z ?_⟩
   have hlt:=m2.lt _ hkh n (by omega)
   have:o p ((w.zm.getD (w.zpivot.length+k) []).getD n 0)=0:=e
   rw[xk,Nat.mod_eq_of_lt hlt] at this
   exact this)
 rw[e3,bS]
 cases o1 with
 | fin r =>
  obtain⟨hr,i,h1,h2,h3⟩:=ho
  rw[oF,hr]
  exact⟨_,_,rfl,.inr ⟨rfl,λv hv=>h3 (red'.rest hv h1 h2)⟩⟩
 | go s =>
  have hz:∀i,w.zpivot.length≤i→i<h→G p w.zm i n=0:=λi h1 h2=>ho i h1 (by omega)
  rw[oG,ci (by omega) (by omega) (by omega) (by omega),bS,Nat.sub_zero]
  simp only[Int.toNat_natCast]
  obtain⟨v,e4,v1,v2,v3⟩:=bm (body:=λk3 (st:(List Nat))=>oY ((n:Nat):Int) w k3 st) (rem:=w.zpivot.length) (k:=0) (s:=List.replicate n 0)
   (λs v=>v.length=n∧(∀j,j<n→v.getD j 0<p)∧Read n (G p w.zm) (pv w.zpivot) s (λj=>o p (v.getD j 0))) ⟨by simp,λj hj=>by simp[List.getD_eq_getElem?_getD,hj];exact hp.pos,λj hj _=>by simp[List.getD_eq_getElem?_getD,hj,lf],λr hr=>by omega⟩ (λk v _ hk ⟨v1,v2,v3⟩=>by
    have hk':k<w.zpivot.length:=by omega
    have hkh:k<h:=by omega
    have hpn:pv w.zpivot k<n:=red.lt k hk'
    unfold oY
    rw[ix 0 hk',bS,m2.some hkh,bS,aS 0 (by omega) (by rw[m2.row _ hkh];omega),bS,p2 k hk',aS 0 (by omega) (by rw[v1];omega),bS,bS]
    simp only[Int.toNat_natCast]
    refine⟨_,rfl,by rw[List.length_set];exact v1,λj hj=>?_,λj hj hne=>?_,λr hr=>?_⟩
    ·rw[aN (by rw[v1];exact hpn)];split
     ·exact m2.lt _ hkh n (by omega)
     ·exact v2 j hj
    ·show o p _=0
     rw[aN (by rw[v1];exact hpn),if_neg (hne k (by omega))]
     exact v3.1 j hj λr hr=>hne r (by omega)
    ·show o p _=o p _
     rw[aN (by rw[v1];exact hpn)]
     by_cases g:r=k
     ·subst g;rw[if_pos rfl]
     ·rw[if_neg (λe=>g (red.distinct hp.one (by omega) hk' e.symm))]
      exact v3.2 r (by omega))
  rw[e4,bS]
  rw[Nat.zero_add] at v3
  exact⟨_,_,rfl,.inl ⟨rfl,v1,v2,red'.solved hp.one v3 hz⟩⟩
end
end Pu

/- Plain laws of polynomials. -/
set_option linter.unusedVariables false
namespace Pu
open Gw Gl Sp Lean.Grind
def Lt(p:Nat)(l:List Nat):Prop:=∀i,i<l.length→l.getD i 0<p
theorem Lt.get{p:Nat}{l:List Nat}(hp:0<p)(h:Lt p l)(i:Nat):l.getD i 0<p:=by
 by_cases g:i<l.length
 ·exact h i g
 ·rw[List.getD_eq_getElem?_getD,List.getElem?_eq_none (by omega)];exact hp
theorem lA{α:Type}{l:List α}{i:Nat}{d:α}(h:l.length≤i):l.getD i d=d:=by
 rw[List.getD_eq_getElem?_getD,List.getElem?_eq_none h];rfl
/-- the degree -/
theorem wB{f:List Nat}(h:f.length≤1000):∃k:Nat,k≤f.length∧mO f=some ((k:Int)-1)∧(∀i,k≤i→f.getD i 0=0)∧(k=0∨f.getD (k-1) 0≠0):=by
 unfold mO
 rw[cb (by omega) (by omega),bS]
 obtain⟨o,e,ho⟩:=kK (step:=λ(st:Int)=>p5 f st) (λst=>∃k:Nat,st=(k:Int)-1∧k≤f.length∧∀i,k≤i→f.getD i 0=0)
  (λ(o:Int ⊕ Unit)=>∃k:Nat,k≤f.length∧(∀i,k≤i→f.getD i 0=0)∧((o=.inr ()∧k=0)∨(o=.inl ((k:Int)-1)∧0<k∧f.getD (k-1) 0≠0))) (λst=>(st+1).toNat) (λst ⟨k,h1,h2,h3⟩=>by
   subst h1
   unfold p5
   by_cases g:k=0
   ·subst g
    rw[dF (by omega),cF]
    exact⟨_,rfl,0,by omega,h3,.inl ⟨rfl,rfl⟩⟩
   ·rw[dT (by omega),cT,aS 0 (by omega) (by omega),bS]
    have e1:((k:Int)-1).toNat=k-1:=by omega
    rw[e1]
    by_cases z:f.getD (k-1) 0=0
    ·rw[qF (by omega),cF,cb (by omega) (by omega),bS]
     refine⟨_,rfl,⟨k-1,by omega,by omega,λi hi=>?_⟩,by omega⟩
     by_cases e:i=k-1
     ·subst e;exact z
     ·exact h3 i (by omega)
    ·rw[qT (by omega),cT]
     exact⟨_,rfl,k,h2,h3,.inr ⟨rfl,by omega,z⟩⟩)
  (s:=((f.length:Nat):Int)-1) ⟨f.length,rfl,Nat.le_refl _,λi hi=>lA hi⟩ (by omega)
 rw[e,bS]
 obtain⟨k,h1,h2,⟨rfl,rfl⟩ | ⟨rfl,h3,h4⟩⟩:=ho
 ·exact⟨0,by omega,by rw[Rc];rfl,h2,.inl rfl⟩
 ·exact⟨k,h1,by rw[QW],h2,.inr h4⟩
/-- without zeros at the end -/
theorem vZ{f:List Nat}(h:f.length≤1000):∃t:List Nat,i9 f=some t∧t.length≤f.length∧(∀i,t.getD i 0=f.getD i 0)∧(t=[]∨t.getD (t.length-1) 0≠0):=by
 obtain⟨k,h1,h2,h3,h4⟩:=wB h
 unfold i9
 have e0:(k:Int)-1+1=(k:Int):=by omega
 rw[h2,bS,bi (by omega) (by omega),bS,e0,eG (by omega) (by omega) (by omega),bS]
 have e1:List.take (((k:Int)).toNat-(0:Int).toNat) (List.drop ((0:Int).toNat) f)=f.take k:=by simp
 rw[e1,aM (by simp;omega) (by simp;omega),bS,List.nil_append]
 have hl:(f.take k).length=k:=by simp;omega
 have hg:∀i,(f.take k).getD i 0=f.getD i 0:=λi=>by
  by_cases g:i<k
  ·rw[List.getD_eq_getElem?_getD,List.getElem?_take,if_pos g,←List.getD_eq_getElem?_getD]
  ·rw[lA (by omega),h3 i (by omega)]
 refine⟨_,rfl,by omega,hg,?_⟩
 rcases h4 with rfl | h4
 ·left;simp
 ·right;rw[hl,hg];exact h4
theorem Iy{f:List Nat}{i:Nat}(h:f.length≤1000):lG f ((i:Nat):Int)=some (f.getD i 0):=by
 unfold lG
 rw[dF (by omega),cF]
 by_cases g:i<f.length
 ·rw[dF (by omega),cF,aS 0 (by omega) (by omega),bS];simp
 ·rw[dT (by omega),cT,lA (by omega)]
section
variable {p:Nat}[NeZero p]
def P(p:Nat)[NeZero p](f:List Nat):List (Fin p):=f.map (o p)
theorem mG(f:List Nat):(P p f).length=f.length:=by simp[P]
theorem oe(f:List Nat)(i:Nat):cf (P p f) i=o p (f.getD i 0):=by
 unfold cf P
 rw[List.getD_eq_getElem?_getD,List.getElem?_map,List.getD_eq_getElem?_getD]
 cases f[i]? with
 | none=>exact lf.symm
 | some x=>rfl
theorem vu{f g:List Nat}(h:∀i,f.getD i 0=g.getD i 0)(x:Fin p):bZ (P p f) x=bZ (P p g) x:=ly (λi=>by rw[oe,oe,h i]) x
theorem Aa(hp:fQ p){f:List Nat}{x:Nat}(hf:Lt p f)(hx:x<p)(h:f.length≤1000):∃y,i7 p f x=some y∧y<p∧o p y=bZ (P p f) (o p x):=by
 have hl:=hp.lt
 unfold i7
 rw[cb (by omega) (by omega),bS]
 obtain⟨r,e,h1,h2⟩:=kK (step:=λ(st:Nat×Int)=>ng p f x st.1 st.2) (λst=>∃k:Nat,st.2=(k:Int)-1∧k≤f.length∧st.1<p∧o p st.1=bZ (P p (f.drop k)) (o p x))
  (λr=>r<p∧o p r=bZ (P p f) (o p x)) (λst=>(st.2+1).toNat) (λst ⟨k,h1,h2,h3,h4⟩=>by
   obtain⟨a,z⟩:=st
   simp only at h1 h3 h4
   subst h1
   unfold ng
   by_cases g:k=0
   ·subst g
    rw[dF (by omega),cF]
    exact⟨_,rfl,h3,h4⟩
   ·have e1:((k:Int)-1).toNat=k-1:=by omega
    have hm:=Nat.mod_lt (a*x) hp.pos
    have hfk:=hf (k-1) (by omega)
    rw[dT (by omega),cT,jm hp h3 hx,bS,aS 0 (by omega) (by omega),bS,e1,wm hp (by omega),bS,cb (by omega) (by omega),bS]
    refine⟨_,rfl,⟨k-1,by show(k:Int)-1-1=_;omega,by omega,Nat.mod_lt _ hp.pos,?_⟩,by show((k:Int)-1-1+1).toNat<((k:Int)-1+1).toNat;omega⟩
    show o p _=_
    have ed:f.drop (k-1)=f.getD (k-1) 0::f.drop k:=by
     rw[List.drop_eq_getElem_cons (show k-1<f.length by omega),show k-1+1=k by omega,List.getD_eq_getElem?_getD,List.getElem?_eq_getElem (by omega)];rfl
    rw[ed,lc,ze,lc,nC,h4]
    show _=o p _+o p x*bZ (P p (f.drop k)) (o p x)
    grind)
  (s:=(0,((f.length:Nat):Int)-1)) ⟨f.length,rfl,Nat.le_refl _,hp.pos,by
   show o p 0=_
   rw[List.drop_length,lf];rfl⟩ (by show((f.length:Int)-1+1).toNat<_;omega)
 rw[e,bS]
 exact⟨r,rfl,h1,h2⟩
/-- one step of the division, coefficient by coefficient -/
theorem E7{l l' b:List Nat}{k at_:Nat}(h1:∀j,j<at_→o p (l'.getD j 0)=o p (l.getD j 0))(h2:∀j,o p (l'.getD (at_+j) 0)=o p (l.getD (at_+j) 0)-o p k*o p (b.getD j 0))(x:Fin p) :
  bZ (P p l') x=bZ (P p l) x-o p k*x ^ at_*bZ (P p b) x:=by
 have e:∀i,cf (P p l') i=cf (wP (P p l) (List.replicate at_ (0:Fin p)++wV (o p k) (P p b))) i:=λi=>by
  rw[vF,oe,oe]
  by_cases g:i<at_
  ·have:cf (List.replicate at_ (0:Fin p)++wV (o p k) (P p b)) i=0:=by
    unfold cf;rw[cA (by simpa using g)];simp[List.getD_eq_getElem?_getD,g]
   rw[this,h1 i g];grind
  ·obtain⟨j,rfl⟩:∃j,i=at_+j:=⟨i-at_,by omega⟩
   have:cf (List.replicate at_ (0:Fin p)++wV (o p k) (P p b)) (at_+j)=o p k*o p (b.getD j 0):=by
    rw[←oe,←qm];unfold cf
    rw[List.getD_eq_getElem?_getD,List.getElem?_append_right (by simp),List.length_replicate,Nat.add_sub_cancel_left,←List.getD_eq_getElem?_getD]
   rw[this,h2 j]
 rw[ly e,pU,vc,rf,List.length_replicate]
 have z:bZ (List.replicate at_ (0:Fin p)) x=0:=rO (λi=>by unfold cf;by_cases g:i<at_ <;> simp[List.getD_eq_getElem?_getD,g]) x
 rw[z];grind
theorem Ef{l:List Nat}{k at_:Nat}(hl:at_<l.length)(h0:l.getD at_ 0=0)(x:Fin p):bZ (P p (l.set at_ k)) x=bZ (P p l) x+o p k*x ^ at_:=by
 have e:∀i,cf (P p (l.set at_ k)) i=cf (ot (P p l) (List.replicate at_ (0:Fin p)++[o p k])) i:=λi=>by
  rw[rN,oe,oe,aN hl]
  by_cases g:at_=i
  ·subst g
   rw[if_pos rfl,h0,lf]
   have:cf (List.replicate at_ (0:Fin p)++[o p k]) at_=o p k:=by unfold cf;exact df (by simp)
   rw[this];grind
  ·rw[if_neg g]
   have:cf (List.replicate at_ (0:Fin p)++[o p k]) i=0:=by
    unfold cf
    by_cases g2:i<at_
    ·rw[cA (by simpa using g2)];simp[List.getD_eq_getElem?_getD,g2]
    ·rw[lA (by simp;omega)]
   rw[this];grind
 rw[ly e,ta,vc,List.length_replicate]
 have z:bZ (List.replicate at_ (0:Fin p)) x=0:=rO (λi=>by unfold cf;by_cases g:i<at_ <;> simp[List.getD_eq_getElem?_getD,g]) x
 rw[z];simp only[bZ];grind
end
theorem wj{p:Nat}{l:List Nat}{i v:Nat}(h:Lt p l)(hv:v<p):Lt p (l.set i v):=λj hj=>by
 rw[List.length_set] at hj
 by_cases g:i<l.length
 ·rw[aN g];split
  ·exact hv
  ·exact h j hj
 ·rw[List.set_eq_of_length_le (by omega)];exact h j hj
section
variable {p:Nat}[NeZero p]
/-- division by a monic polynomial of degree w -/
theorem Et (hp:fQ p) {a b:List Nat} {w:Nat} (ha:Lt p a) (hb:Lt p b) (hbl:b.length=w+1) (hb1:b.getD w 0=1) (hal:a.length≤900) (hw:w≤900) :
    ∃ q r,qt p a b=some (q,r,0)∧Lt p q∧Lt p r∧r.length≤w∧(q.length=0 ∨ q.length+w≤a.length)∧(q=[] ∨ q.getD (q.length - 1) 0≠0)∧(r=[] ∨ r.getD (r.length - 1) 0≠0)∧∀ x:Fin p,bZ (P p a) x=bZ (P p b) x*bZ (P p q) x+bZ (P p r) x:=by
  have hl:=hp.lt
  unfold qt
  -- the divisor is trimmed already
  obtain ⟨b',eb,b1,b2,b3⟩:=vZ (f:=b) (by omega)
  have hbb:b'=b:=by
    have hlen:b'.length=w+1:=by
      apply Classical.byContradiction
      intro g
      have:=b2 w
      rw [lA (by omega),hb1] at this
      omega
    apply List.ext_getElem?
    intro i
    by_cases g:i < w+1
    · rw [ix 0 (by omega),ix 0 (by omega),b2 i]
    · rw [List.getElem?_eq_none (by omega),List.getElem?_eq_none (by omega)]
  subst hbb
  have hinv:Hd p 1 (p - 2)=1:=by unfold Hd;rw [Nat.one_pow];exact Nat.mod_eq_of_lt (by omega)
  obtain ⟨t,et,t1,t2,t3⟩:=vZ (f:=a) (by omega)
  have htl:Lt p t:=fun i hi=>by rw [t2];exact ha.get hp.pos i
  have e1:((w+1:Nat):Int) - 1=(w:Int):=by omega
  rw [eb,bS,hbl,eF (by omega),cF,cb (by omega) (by omega),bS,e1,aS 0 (by omega) (by omega),bS]
  simp only [Int.toNat_natCast]
  rw [hb1,CJ hp (by omega) (by omega),hinv,bS,et,bS,cb (by omega) (by omega),bS,bi (by omega) (by omega),bS,bS,ci (by omega) (by omega) (by omega) (by omega),bS]
  have eQ:(max (0:Int) ((t.length:Int) - ((w+1:Nat):Int)+1)).toNat=t.length - w:=by omega
  rw [eQ]
  obtain ⟨⟨r,q⟩,e,r1,r2,r3,r4,r5,r6⟩:=kK (step:=fun (st:(List Nat) × (List Nat))=>jL p b' (1,0) st.1 st.2)
    (fun st=>Lt p st.1∧Lt p st.2∧st.1.length≤t.length∧st.2.length=t.length - w∧(st.1=[] ∨ st.1.getD (st.1.length - 1) 0≠0)∧(∀ i,i+w+1≤st.1.length→st.2.getD i 0=0)∧∀ x:Fin p,bZ (P p a) x=bZ (P p b') x*bZ (P p st.2) x+bZ (P p st.1) x)
    (fun st=>Lt p st.1∧Lt p st.2∧st.1.length≤w∧st.2.length=t.length - w∧(st.1=[] ∨ st.1.getD (st.1.length - 1) 0≠0)∧∀ x:Fin p,bZ (P p a) x=bZ (P p b') x*bZ (P p st.2) x+bZ (P p st.1) x) (fun st=>st.1.length) (fun st ⟨h1,h2,h3,h4,h5,h6,h7⟩=>by
      obtain ⟨l2,l3⟩:=st
      replace h1:Lt p l2:=h1
      replace h2:Lt p l3:=h2
      replace h3:l2.length≤t.length:=h3
      replace h4:l3.length=t.length - w:=h4
      replace h5:l2=[] ∨ l2.getD (l2.length - 1) 0≠0:=h5
      replace h6:∀ i,i+w+1≤l2.length→l3.getD i 0=0:=h6
      replace h7:∀ x:Fin p,bZ (P p a) x=bZ (P p b') x*bZ (P p l3) x+bZ (P p l2) x:=h7
      show ∃ o,jL p b' (1,0) l2 l3=some o∧_
      unfold jL
      rw [hbl]
      by_cases c:w+1≤l2.length
      · have hat:((l2.length - (w+1):Nat):Int)=(l2.length:Int) - ((w+1:Nat):Int):=by omega
        have htop:=h1 (l2.length - 1) (by omega)
        rw [dT (by omega),cT,cb (by omega) (by omega),bS,cb (by omega) (by omega),bS,aS 0 (by omega) (by omega),bS,← hat]
        have et1:((l2.length:Int) - 1).toNat=l2.length - 1:=by omega
        rw [et1,jm hp htop (by omega),bS,aS 0 (by omega) (by omega),bS,bS,Nat.sub_zero]
        simp only [Int.toNat_natCast]
        generalize hk:l2.getD (l2.length - 1) 0*1 % p=k
        have hkp:k < p:=by rw [← hk];exact Nat.mod_lt _ hp.pos
        have hkt:k=l2.getD (l2.length - 1) 0:=by rw [← hk,Nat.mul_one,Nat.mod_eq_of_lt htop]
        generalize hA:l2.length - (w+1)=A
        have hAl:A+w+1=l2.length:=by omega
        obtain ⟨l10,e10,k1,k2,k3,k4⟩:=bm (body:=fun k1 (st:(List Nat))=>p6 p b' ((A:Nat):Int) k k1 st) (rem:=w+1) (k:=0) (s:=l2)
          (fun j l=>l.length=l2.length∧Lt p l∧(∀ i,(i < A ∨ A+j≤i)→l.getD i 0=l2.getD i 0)∧(∀ i,i < j→o p (l.getD (A+i) 0)=o p (l2.getD (A+i) 0) - o p k*o p (b'.getD i 0))) ⟨rfl,h1,fun _ _=>rfl,fun i hi=>by omega⟩ (fun j l _ hj ⟨g1,g2,g3,g4⟩=>by
            have hbj:=hb j (by omega)
            have hAj:(((A:Nat):Int)+((j:Nat):Int))=((A+j:Nat):Int):=by omega
            unfold p6
            rw [ix 0 (by omega),bS,bi (by omega) (by omega),bS,hAj,aS 0 (by omega) (by omega),bS]
            simp only [Int.toNat_natCast]
            rw [jm hp hkp hbj,bS,yJ hp (g2 _ (by omega)) (Nat.mod_lt _ hp.pos),bS,bS]
            refine ⟨_,rfl,by rw [List.length_set];exact g1,wj g2 (Nat.mod_lt _ hp.pos),fun i hi=>?_,fun i hi=>?_⟩
            · rw [aN (by omega),if_neg (by omega)];exact g3 i (by omega)
            · rw [aN (by omega)]
              by_cases g:i=j
              · subst g
                rw [if_pos rfl,yy (Nat.mod_lt _ hp.pos),lc,nC,g3 (A+i) (by omega)]
              · rw [if_neg (by omega)];exact g4 i (by omega))
        rw [e10,bS]
        obtain ⟨t',e',u1,u2,u3⟩:=vZ (f:=l10) (by omega)
        rw [e',bS]
        have hev:∀ x:Fin p,bZ (P p l10) x=bZ (P p l2) x - o p k*x ^ A*bZ (P p b') x:=E7 (fun j hj=>by rw [k3 j (by omega)]) (fun j=>by
          by_cases g:j < w+1
          · exact k4 j (by omega)
          · rw [k3 _ (by omega),lA (l:=b') (by omega),lf];grind)
        have htz:l10.getD (l2.length - 1) 0=0:=by
          have z:=k4 w (by omega)
          rw [hb1,show A+w=l2.length - 1 by omega,← hkt,uR] at z
          have z2:o p (l10.getD (l2.length - 1) 0)=0:=by rw [z];grind
          rw [xk,Nat.mod_eq_of_lt (k2 _ (by omega))] at z2
          exact z2
        have hlt:t'.length < l2.length:=by
          apply Classical.byContradiction
          intro g
          have:t'.length=l2.length:=by omega
          rcases u3 with u3 | u3
          · rw [u3] at this;simp at this;omega
          · rw [this,u2,htz] at u3;exact u3 rfl
        refine ⟨_,rfl,⟨fun i hi=>by rw [u2];exact k2.get hp.pos i,wj h2 hkp,by show t'.length≤_;omega,by show (l3.set A k).length=_;rw [List.length_set];exact h4,u3,fun i hi=>?_,fun x=>?_⟩,hlt⟩
        · show (l3.set A k).getD i 0=0
          have hi':i+w+1≤t'.length:=hi
          rw [aN (by omega),if_neg (by omega)];exact h6 i (by omega)
        · show bZ (P p a) x=bZ (P p b') x*bZ (P p (l3.set A k)) x+bZ (P p t') x
          rw [vu u2,hev,Ef (by omega) (h6 A (by omega)),h7 x];grind
      · rw [dF (by omega),cF]
        exact ⟨_,rfl,h1,h2,by show l2.length≤w;omega,h4,h5,h7⟩)
    (s:=(t,List.replicate (t.length - w) 0)) ⟨htl,fun i hi=>by simp at hi;simp [List.getD_eq_getElem?_getD,hi];exact hp.pos,Nat.le_refl _,by simp,t3,fun i hi=>by
      by_cases g:i < t.length - w <;> simp [List.getD_eq_getElem?_getD,g],fun x=>by
      have z:bZ (P p (List.replicate (t.length - w) 0)) x=0:=rO (fun i=>by rw [oe];by_cases g:i < t.length - w <;> simp [List.getD_eq_getElem?_getD,g,lf]) x
      show bZ (P p a) x=bZ (P p b') x*bZ (P p (List.replicate (t.length - w) 0)) x+bZ (P p t) x
      rw [z,vu t2];grind⟩ (by show t.length < _;omega)
  rw [e,bS]
  simp only at r1 r2 r3 r4 r5 r6 ⊢
  obtain ⟨q',eq',q1,q2,q3⟩:=vZ (f:=q) (by omega)
  rw [eq',bS]
  exact ⟨q',r,rfl,fun i hi=>by rw [q2];exact r2.get hp.pos i,r1,r3,by omega,q3,r5,fun x=>by rw [r6 x,vu q2]⟩
end
end Pu

/- Plain laws of the decoder of Reed and Solomon. -/
set_option linter.unusedVariables false
namespace Pu
open Gw Gl Sp Lean.Grind
instance:Inhabited aH:=⟨⟨0,0⟩⟩
/-- the places are different and all words are below p -/
structure Nx(p:Nat)(pts:List aH):Prop where
 x:∀i,i<pts.length→(pts.getD i default).X<p
 y:∀i,i<pts.length→(pts.getD i default).Y<p
 ne:∀i,i<pts.length→∀j,j<i→(pts.getD j default).X≠(pts.getD i default).X
theorem BO{α:Type}{v:α}{k j:Int}:∀{m:List (Int×α)},j7 (pY m k v) j=if k=j then some v else j7 m j
 | []=>by
  simp only[pY,j7]
  by_cases h:k=j
  ·rw[eT h,cT,if_pos h]
  ·rw[eF h,cF,if_neg h]
 | q::m=>by
  simp only[pY]
  by_cases h:q.1=k
  ·rw[eT h,cT]
   simp only[j7]
   by_cases g:k=j
   ·rw[eT g,cT,if_pos g]
   ·rw[eF g,cF,if_neg g,h,eF g,cF]
  ·rw[eF h,cF]
   simp only[j7]
   rw[BO]
   by_cases g:q.1=j
   ·rw[eT g,cT,cT,if_neg (λe=>h (g.trans e.symm))]
   ·rw[eF g,cF,cF]
theorem Cy{α:Type}(l:List α)(q:α→Bool):(l.filter q).length+(l.filter λi=>!q i).length=l.length:=by
 induction l with
 | nil=>rfl
 | cons a l ih =>
  simp only[List.filter_cons]
  cases q a <;> simp <;> omega
theorem MG{p:Nat}{pts:List aH}{deg w:Nat}(hP:Nx p pts)(hn:deg+1+2*w≤pts.length)(hl:pts.length≤100):mq pts ((deg:Nat):Int) ((w:Nat):Int)=some true:=by
 unfold mq
 rw[dF (by omega),cF,dF (by omega),cF,dF (by omega),cF,dF (by omega),cF,bi (by omega) (by omega),bS,iy (by omega) (by omega),bS,bi (by omega) (by omega),bS,dF (by omega),bS,cF,Nat.sub_zero]
 obtain⟨o,e,ho⟩:=im (body:=λk1 (st:(List (Int×Bool)))=>mD pts k1 st) (λk l=>∀z:Int,(∀i,i<k→(((pts.getD i default).X:Nat):Int)≠z)→j7 l z=none) (λ_=>False) (rem:=pts.length) (k:=0) (s:=([]:List (Int×Bool))) (λ_ _=>rfl) (λk l _ hk h=>by
  unfold mD
  rw[ix default (by omega),bS,h _ (λi hi e=>hP.ne k (by omega) i hi (by omega))]
  refine⟨_,rfl,λz hz=>?_⟩
  rw[BO,if_neg (hz k (by omega))]
  exact h z λi hi=>hz i (by omega))
 rw[e,bS]
 cases o with
 | fin r=>exact ho.elim
 | go s=>rw[oG]
section
variable {p:Nat}[NeZero p]
theorem qp{p n:Nat}{l:List Nat}{v:Nat}(h:∀i,i<n→l.getD i 0<p)(hl:l.length=n)(hv:v<p):∀i,i<n+1→(l++[v]).getD i 0<p:=λi hi=>by
 by_cases g:i<n
 ·rw[cA (by omega)];exact h i g
 ·rw[df (by omega)];exact hv
/-- one row of the equations -/
theorem MX(hp:fQ p){X Y deg w:Nat}(hX:X<p)(hY:Y<p)(hd:deg+2*w≤100) :
  ∃l x r y,cZ (λk2 (st:(List Nat)×Nat)=>fZ p ⟨X,Y⟩ k2 st.1 st.2) (deg+w+1) 0 (([]:List Nat),1)=some (l,x) ∧
   cZ (λk3 (st:(List Nat)×Nat)=>f9 p ⟨X,Y⟩ k3 st.1 st.2) w 0 (l,Y)=some (r,y)∧r.length=deg+w+1+w∧(∀j,j<deg+w+1+w→r.getD j 0<p)∧y<p ∧
   (∀j,j<deg+w+1+w→o p (r.getD j 0)=mH deg w (o p X) (o p Y) j)∧o p y=mH deg w (o p X) (o p Y) (deg+w+1+w):=by
 have hl:=hp.lt
 obtain⟨⟨l,x⟩,e,l1,l2,l3,_,_⟩:=bm (body:=λk2 (st:(List Nat)×Nat)=>fZ p ⟨X,Y⟩ k2 st.1 st.2) (rem:=deg+w+1) (k:=0) (s:=(([]:List Nat),1))
  (λk st=>st.1.length=k∧(∀j,j<k→st.1.getD j 0<p)∧(∀j,j<k→o p (st.1.getD j 0)=o p X ^ j)∧st.2<p∧o p st.2=o p X ^ k)
  ⟨rfl,λj hj=>by omega,λj hj=>by omega,by show 1<p;omega,by show o p 1=_;rw[uR];grind⟩ (λk st _ hk ⟨h1,h2,h3,h4,h5⟩=>by
   unfold fZ
   rw[aM (by rw[h1];simp;omega) (by rw[h1];simp;omega),bS,jm hp h4 hX,bS]
   refine⟨_,rfl,by simp[h1],qp h2 h1 h4,λj hj=>?_,Nat.mod_lt _ hp.pos,?_⟩
   ·show o p ((st.1++[st.2]).getD j 0)=_
    by_cases g:j<k
    ·rw[cA (by omega)];exact h3 j g
    ·rw[df (by omega),h5];congr 1;omega
   ·show o p (st.2*X % p)=_
    rw[lc,nC,h5];grind)
 rw[Nat.zero_add] at l1 l2 l3
 obtain⟨⟨r,y⟩,e2,r1,r2,r3,r4,r5⟩:=bm (body:=λk3 (st:(List Nat)×Nat)=>f9 p ⟨X,Y⟩ k3 st.1 st.2) (rem:=w) (k:=0) (s:=(l,Y))
  (λk st=>st.1.length=deg+w+1+k∧(∀j,j<deg+w+1+k→st.1.getD j 0<p)∧(∀j,j<deg+w+1+k→o p (st.1.getD j 0)=mH deg w (o p X) (o p Y) j)∧st.2<p∧o p st.2=o p Y*o p X ^ k)
  ⟨l1,l2,λj hj=>by rw[l3 j hj,mH,if_pos (by omega)],hY,by show o p Y=_;grind⟩ (λk st _ hk ⟨h1,h2,h3,h4,h5⟩=>by
   unfold f9
   rw[Av hp h4,bS,aM (by rw[h1];simp;omega) (by rw[h1];simp;omega),bS,jm hp h4 hX,bS]
   refine⟨_,rfl,by simp[h1];omega,qp h2 h1 (Nat.mod_lt _ hp.pos),λj hj=>?_,Nat.mod_lt _ hp.pos,?_⟩
   ·show o p ((st.1++[(p-st.2) % p]).getD j 0)=_
    by_cases g:j<deg+w+1+k
    ·rw[cA (by omega)];exact h3 j g
    ·rw[df (by omega),GW h4,h5,mH,if_neg (by omega),if_pos (by omega),show j-(deg+w+1)=k by omega]
   ·show o p (st.2*X % p)=_
    rw[lc,nC,h5];grind)
 rw[Nat.zero_add] at r1 r2 r3 r5
 exact⟨l,x,r,y,e,e2,r1,r2,r4,r3,by rw[r5,mH,if_neg (by omega),if_neg (by omega)]⟩
/-- the equations of Berlekamp and Welch -/
theorem Nc(hp:fQ p){pts:List aH}{deg w:Nat}(hP:Nx p pts)(h0:0<pts.length)(hd:deg+2*w≤100)(hl:pts.length≤100) :
  (∃q e,kv p pts ((deg:Nat):Int) ((w:Nat):Int)=some (q,e,true)∧q.length=deg+w+1∧Lt p q∧e.length=w+1∧Lt p e∧e.getD w 0=1 ∧
   ∀i,i<pts.length→bZ (P p q) (o p (pts.getD i default).X)=o p (pts.getD i default).Y*bZ (P p e) (o p (pts.getD i default).X)) ∨
  (kv p pts ((deg:Nat):Int) ((w:Nat):Int)=some ([],[],false)∧∀f0 bad:List (Fin p),f0.length≤deg+1→bad.length≤w→¬∀i,i<pts.length→(o p (pts.getD i default).X∈bad∨o p (pts.getD i default).Y=bZ f0 (o p (pts.getD i default).X))):=by
 have hlt:=hp.lt
 unfold kv
 rw[Nat.sub_zero]
 obtain⟨⟨m,b⟩,e1,m1,m2,m3,m4,m5,m6⟩:=bm (body:=λk1 (st:(List (List Nat))×(List Nat))=>iH p pts ((deg:Nat):Int) ((w:Nat):Int) k1 st.1 st.2) (rem:=pts.length) (k:=0) (s:=(([]:List (List Nat)),([]:List Nat)))
  (λk st=>st.1.length=k∧st.2.length=k∧(∀i,i<k→(st.1.getD i []).length=deg+w+1+w∧∀j,j<deg+w+1+w→(st.1.getD i []).getD j 0<p)∧(∀i,i<k→st.2.getD i 0<p) ∧
   (∀i,i<k→∀j,j<deg+w+1+w→o p ((st.1.getD i []).getD j 0)=mH deg w (o p (pts.getD i default).X) (o p (pts.getD i default).Y) j)∧∀i,i<k→o p (st.2.getD i 0)=mH deg w (o p (pts.getD i default).X) (o p (pts.getD i default).Y) (deg+w+1+w))
  ⟨rfl,rfl,λi hi=>by omega,λi hi=>by omega,λi hi=>by omega,λi hi=>by omega⟩ (λk st _ hk ⟨h1,h2,h3,h4,h5,h6⟩=>by
   unfold iH
   have hx:=hP.x k (by omega)
   have hy:=hP.y k (by omega)
   rw[ix default (by omega),bS,bi (by omega) (by omega),bS,bi (by omega) (by omega),bS]
   generalize hq:pts.getD k default=Q at *
   obtain⟨X,Y⟩:=Q
   obtain⟨l,x,r,y,a1,a2,a3,a4,a5,a6,a7⟩:=MX (deg:=deg) (w:=w) hp hx hy (by omega)
   have z1:max 0 ((deg:Int)+(w:Int)+1).toNat=deg+w+1:=by omega
   have z2:max 0 ((w:Nat):Int).toNat=w:=by simp
   rw[z1,z2,bJ (by omega),bS,Nat.sub_zero,a1,bS]
   simp only
   rw[bJ (by omega),bS,Nat.sub_zero,a2,bS]
   simp only
   rw[aM (by rw[h1];simp;omega) (by rw[h1];simp;omega),bS,aM (by rw[h2];simp;omega) (by rw[h2];simp;omega),bS]
   refine⟨_,rfl,by simp[h1],by simp[h2],λi hi=>?_,qp h4 h2 a5,λi hi=>?_,λi hi=>?_⟩
   ·show((st.1++[r]).getD i []).length=_∧_
    by_cases g:i<k
    ·simp only;rw[cA (by omega)];exact h3 i g
    ·simp only;rw[df (by omega)];exact⟨a3,a4⟩
   ·simp only
    by_cases g:i<k
    ·rw[cA (by omega)];exact h5 i g
    ·have:i=k:=by omega
     subst this
     rw[df (by omega),hq];exact a6
   ·simp only
    by_cases g:i<k
    ·rw[cA (by omega)];exact h6 i g
    ·have:i=k:=by omega
     subst this
     rw[df (by omega),hq];exact a7)
 rw[Nat.zero_add] at m1 m2 m3 m4 m5 m6
 simp only at m1 m2 m3 m4 m5 m6
 rw[e1,bS]
 simp only
 obtain⟨v,e,e2,hv⟩:=HG (h:=pts.length) (n:=deg+w+1+w) (m:=m) (b:=b) (M:=λi j=>mH deg w (o p (pts.getD i default).X) (o p (pts.getD i default).Y) j) hp
  ⟨m1,λi hi=>(m3 i hi).1,λi hi=>(m3 i hi).2⟩ h0 m2 m4 (by omega) (by omega) (λi hi j hj=>(m5 i hi j hj).symm) (λi hi=>(m6 i hi).symm)
 rw[e2,bS]
 simp only
 rcases hv with ⟨rfl,v1,v2,v3⟩ | ⟨rfl,v1⟩
 ·left
  rw[qF rfl,cF,bi (by omega) (by omega),bS,bi (by omega) (by omega),bS,eG (by omega) (by omega) (by omega),bS,eG (by omega) (by omega) (by omega),bS]
  have z1:((deg:Int)+(w:Int)+1).toNat=deg+w+1:=by omega
  rw[z1]
  simp only[Int.toNat_natCast,Int.toNat_zero,Nat.sub_zero,List.drop_zero]
  have hq:(v.take (deg+w+1)).length=deg+w+1:=by rw[List.length_take];omega
  have ht:((v.drop (deg+w+1)).take (v.length-(deg+w+1))).length=w:=by rw[List.length_take,List.length_drop];omega
  have hq1:∀j,j<deg+w+1→(v.take (deg+w+1)).getD j 0=v.getD j 0:=λj hj=>by
   rw[List.getD_eq_getElem?_getD,List.getElem?_take,if_pos hj,←List.getD_eq_getElem?_getD]
  have ht1:∀j,j<w→((v.drop (deg+w+1)).take (v.length-(deg+w+1))).getD j 0=v.getD (deg+w+1+j) 0:=λj hj=>by
   rw[List.getD_eq_getElem?_getD,List.getElem?_take,if_pos (by omega),List.getElem?_drop,←List.getD_eq_getElem?_getD]
  generalize v.take (deg+w+1)=q at *
  generalize (v.drop (deg+w+1)).take (v.length-(deg+w+1))=t at *
  rw[aM (by simp;omega) (by simp;omega),bS,List.nil_append,aM (by simp;omega) (by simp;omega),bS]
  refine⟨_,_,rfl,hq,λi hi=>by rw[hq1 i (by omega)];exact v2 i (by omega),by simp[ht],λi hi=>?_,df ht.symm,λi hi=>?_⟩
  ·simp only[List.length_append,List.length_cons,List.length_nil] at hi
   exact qp (n:=w) (λj hj=>by rw[ht1 j hj];exact v2 _ (by omega)) ht (by omega) i (by omega)
  ·have:=v3 i hi
   rw[←FG (deg:=deg) (w:=w) (v:=λj=>o p (v.getD j 0)) (by rw[mG,hq]) (by rw[mG];simp[ht]) (by rw[oe,df ht.symm,uR]) (λj hj=>by rw[oe,hq1 j hj]) (λk hk=>by rw[oe,cA (by omega),ht1 k hk])]
   exact this
 ·right
  rw[qT (by omega),cT]
  refine⟨rfl,λf0 bad g1 g2 g3=>?_⟩
  obtain⟨u,hu⟩:=Ej (deg:=deg) (w:=w) g1 g2
  exact v1 u λi hi=>hu _ _ (g3 i hi)
/-- where the words differ -/
def lX(p:Nat)(pts:List aH)(f:List Nat)[NeZero p]:List Nat:=(List.range pts.length).filter λi=>decide (bZ (P p f) (o p (pts.getD i default).X)≠o p (pts.getD i default).Y)
theorem Ex(hp:fQ p){pts:List aH}{f:List Nat}(hP:Nx p pts)(hf:Lt p f)(hfl:f.length≤1000)(hl:pts.length≤100) :
  fy p f pts=some ((lX p pts f).map λi=>((i:Nat):Int)):=by
 unfold fy
 rw[Nat.sub_zero]
 obtain⟨l,e,h⟩:=bm (body:=λk1 (st:(List Int))=>gF p f pts k1 st) (rem:=pts.length) (k:=0) (s:=([]:List Int))
  (λk l=>l=((List.range k).filter λi=>decide (bZ (P p f) (o p (pts.getD i default).X)≠o p (pts.getD i default).Y)).map λi=>((i:Nat):Int)) rfl (λk l _ hk h=>by
   unfold gF
   obtain⟨y,ey,y1,y2⟩:=Aa hp hf (hP.x k (by omega)) hfl
   have hll:l.length≤k:=by rw[h,List.length_map];exact Nat.le_trans (List.length_filter_le ..) (by simp)
   rw[ix default (by omega),bS,ey,bS,List.range_succ,List.filter_append,List.map_append,←h]
   by_cases g:y=(pts.getD k default).Y
   ·rw[qF (by omega),cF]
    refine⟨_,rfl,?_⟩
    have:decide (bZ (P p f) (o p (pts.getD k default).X)≠o p (pts.getD k default).Y)=false:=by rw[←y2,g];simp
    simp only[List.filter_cons,this,List.filter_nil]
    simp
   ·rw[qT (by omega),cT,aM (by simp;omega) (by simp;omega),bS]
    refine⟨_,rfl,?_⟩
    have:decide (bZ (P p f) (o p (pts.getD k default).X)≠o p (pts.getD k default).Y)=true:=by
     rw[←y2];exact decide_eq_true λe=>g (pZ y1 (hP.y k (by omega)) e)
    simp only[List.filter_cons,this,List.filter_nil]
    simp)
 rw[Nat.zero_add] at h
 rw[e,bS,h];rfl
theorem Ff{pts:List aH}{f:List Nat}:∀i∈lX p pts f,i<pts.length:=λi hi=>by
 have:=(List.mem_filter.1 hi).1
 simpa using this
theorem Kj(hp:fQ p){pts:List aH}(hP:Nx p pts)(l:List Nat)(hl:l.Nodup)(hlt:∀i∈l,i<pts.length):(l.map λi=>o p (pts.getD i default).X).Nodup:=by
 rw[List.Nodup,List.pairwise_map]
 refine List.Pairwise.imp_of_mem ?_ hl
 intro i j hi hj hne e
 have e':=pZ (hP.x i (hlt i hi)) (hP.x j (hlt j hj)) e
 rcases Nat.lt_or_gt_of_ne hne with g | g
 ·exact hP.ne j (hlt j hj) i g e'
 ·exact hP.ne i (hlt i hi) j g e'.symm
/-- decoding: an answer always; the right one where at most w words are wrong -/
theorem y5 (hp:fQ p) {pts:List aH} {deg w:Nat} (hP:Nx p pts) (hn:deg+1+2*w≤pts.length) (hl:pts.length≤13) :
    ∃ f at_ e,en p pts ((deg:Nat):Int) ((w:Nat):Int)=some (f,at_,e)∧Lt p f∧f.length≤deg+1∧(∃ l:List Nat,at_=l.map (fun i=>((i:Nat):Int))∧∀ i ∈ l,i < pts.length) ∧
      ∀ f0:List Nat,f0.length≤deg+1→(lX p pts f0).length≤w→e=0∧(∀ i,o p (f.getD i 0)=o p (f0.getD i 0))∧at_=(lX p pts f0).map (fun i=>((i:Nat):Int)):=by
  have hlt:=hp.lt
  unfold en
  rw [MG hP hn (by omega),bS,nT,cF]
  have key:∀ f0:List Nat,(lX p pts f0).length≤w→∀ i,i < pts.length→(o p (pts.getD i default).X ∈ (lX p pts f0).map (fun i=>o p (pts.getD i default).X) ∨ o p (pts.getD i default).Y=bZ (P p f0) (o p (pts.getD i default).X)):=fun f0 _ i hi=>by
    by_cases g:bZ (P p f0) (o p (pts.getD i default).X)=o p (pts.getD i default).Y
    · exact .inr g.symm
    · left
      refine List.mem_map.2 ⟨i,List.mem_filter.2 ⟨by simpa using hi,decide_eq_true g⟩,rfl⟩
  rcases Nc (deg:=deg) (w:=w) hp hP (by omega) (by omega) (by omega) with ⟨q,e,et,q1,q2,e1,e2,e3,heq⟩ | ⟨et,hno⟩
  · rw [et,bS]
    simp only [nT,cF]
    obtain ⟨f,r,ed,f1,r1,r2,f2,f3,r3,hd⟩:=Et hp q2 e2 e1 e3 (by omega) (by omega)
    rw [ed,bS]
    simp only
    -- what a right polynomial makes of it
    have good:∀ f0:List Nat,f0.length≤deg+1→(lX p pts f0).length≤w→(∀ i,cf (P p f) i=cf (P p f0) i)∧∀ i,cf (P p r) i=0:=fun f0 g1 g2=>by
      let ok:=(List.range pts.length).filter fun i=>!decide (bZ (P p f0) (o p (pts.getD i default).X)≠o p (pts.getD i default).Y)
      have hcount:ok.length+(lX p pts f0).length=pts.length:=by
        have:=Cy (List.range pts.length) (fun i=>decide (bZ (P p f0) (o p (pts.getD i default).X)≠o p (pts.getD i default).Y))
        rw [List.length_range] at this
        show (List.filter _ _).length+(List.filter _ _).length=_
        omega
      refine bw (good:=ok.map fun i=>o p (pts.getD i default).X) (all:=(List.range 31).map (o p)) (deg:=deg) (w:=w) (q:=P p q) (e:=P p e) hp.nz ?_ ?_ (by rw [mG];omega) (by rw [mG];exact g1) (by rw [oe,e3,uR]) (by rw [mG];exact e1) (by rw [mG];exact r2) (by rw [List.length_map];omega) (by simp;omega) (by rw [mG];simp;omega) (by simp;omega) ?_ hd
      · exact Kj hp hP ok (List.Pairwise.filter _ List.nodup_range) (fun i hi=>by have:=(List.mem_filter.1 hi).1;simpa using this)
      · rw [List.Nodup,List.pairwise_map]
        refine List.Pairwise.imp_of_mem ?_ List.nodup_range
        intro a b ha hb hne e
        simp only [List.mem_range] at ha hb
        exact hne (pZ (by omega) (by omega) e)
      · intro x hx
        obtain ⟨i,hi,rfl⟩:=List.mem_map.1 hx
        have hi':=List.mem_filter.1 hi
        have hil:i < pts.length:=by simpa using hi'.1
        have h3:bZ (P p f0) (o p (pts.getD i default).X)=o p (pts.getD i default).Y:=by simpa using hi'.2
        rw [heq i hil,h3]
    have good2:∀ f0:List Nat,f0.length≤deg+1→(lX p pts f0).length≤w→r=[]∧(∀ i,deg+1≤i→f.getD i 0=0)∧lX p pts f=lX p pts f0:=fun f0 g1 g2=>by
      obtain ⟨k1,k2⟩:=good f0 g1 g2
      refine ⟨?_,fun i hi=>?_,?_⟩
      · rcases r3 with r3 | r3
        · exact r3
        · exfalso
          have:=k2 (r.length - 1)
          rw [oe,xk,Nat.mod_eq_of_lt (r1.get hp.pos _)] at this
          exact r3 this
      · have:=k1 i
        rw [oe,oe,lA (l:=f0) (by omega),lf,xk,Nat.mod_eq_of_lt (f1.get hp.pos _)] at this
        exact this
      · unfold lX
        congr 1
        funext i
        rw [ly k1]
    obtain ⟨k,dk1,dk2,dk3,dk4⟩:=wB (f:=f) (by omega)
    by_cases c1:r.length > 0
    · rw [dT (by omega),cT,bS,cT]
      exact ⟨_,_,_,rfl,fun i hi=>by simp at hi,by simp,⟨[],rfl,by simp⟩,fun f0 g1 g2=>by have:=(good2 f0 g1 g2).1;rw [this] at c1;simp at c1⟩
    · rw [dF (by omega),cF,dk2,bS]
      by_cases c2:deg+1 < k
      · rw [dT (by omega),bS,cT]
        exact ⟨_,_,_,rfl,fun i hi=>by simp at hi,by simp,⟨[],rfl,by simp⟩,fun f0 g1 g2=>by
          have:=(good2 f0 g1 g2).2.1 (k - 1) (by omega)
          rcases dk4 with z | z
          · omega
          · exact absurd this z⟩
      · rw [dF (by omega),bS,cF,Ex hp hP f1 (by omega) (by omega),bS,List.length_map]
        have hfl:f.length≤deg+1:=by
          rcases f3 with z | z
          · rw [z];simp
          · apply Classical.byContradiction
            intro g
            exact z (dk3 _ (by omega))
        by_cases c3:(lX p pts f).length≤w
        · rw [dF (by omega),cF]
          refine ⟨_,_,_,rfl,f1,hfl,⟨_,rfl,Ff⟩,fun f0 g1 g2=>⟨rfl,fun i=>?_,by rw [(good2 f0 g1 g2).2.2]⟩⟩
          have:=(good f0 g1 g2).1 i
          rw [oe,oe] at this
          exact this
        · rw [dT (by omega),cT]
          exact ⟨_,_,_,rfl,fun i hi=>by simp at hi,by simp,⟨[],rfl,by simp⟩,fun f0 g1 g2=>by
            have:=(good2 f0 g1 g2).2.2
            rw [this] at c3;omega⟩
  · rw [et,bS]
    simp only [nF,cT]
    exact ⟨_,_,_,rfl,fun i hi=>by simp at hi,by simp,⟨[],rfl,by simp⟩,fun f0 g1 g2=>absurd (key f0 g2) (hno _ _ (by rw [mG];exact g1) (by rw [List.length_map];exact g2))⟩
end
end Pu

/- Plain laws of the network: deviations, messages, views. -/
set_option linter.unusedVariables false
namespace Pu
open Gw Gl Sp
instance:Inhabited aD:=⟨⟨0,0,0,0,0,0,0,0⟩⟩
instance:Inhabited am:=⟨⟨0,0,[]⟩⟩
/-- what a valid scenario says -/
structure Sc(w:ae)(n t:Nat):Prop where
 sup:fQ w.S.P
 N:w.S.N=n
 T:w.S.T=t
 n4:4≤n
 n13:n≤13
 t1:1≤t
 t3:3*t<n
 cl:w.af.length≤t
 cr:∀x∈w.af,1≤x∧x≤n
 dl:w.aa.length≤40
 dv:∀x∈w.aa,1≤x.From∧x.From≤n∧0≤x.At∧0≤x.bG∧0≤x.Of∧x.Of≤n∧(x.Kind=3→1≤x.Of)∧x.K<18446744073709551616
theorem oq{l:List Int}{v:Int}:dh l v=some (decide (v∈l)):=by
 unfold dh kD
 rw[Nat.sub_zero]
 obtain⟨o,e,ho⟩:=im (body:=λk1 (st:Unit)=>jr l v k1) (λk _=>∀i,i<k→l.getD i 0≠v) (λr=>0≤r∧v∈l) (rem:=l.length) (k:=0) (s:=()) (λi hi=>by omega) (λk _ _ hk h=>by
  unfold jr
  have hkl:k<l.length:=by omega
  rw[ix 0 hkl,bS]
  by_cases g:v=l.getD k 0
  ·rw[eT g,cT]
   refine⟨_,rfl,by omega,?_⟩
   rw[g,List.getD_eq_getElem?_getD,List.getElem?_eq_getElem hkl]
   exact List.getElem_mem hkl
  ·rw[eF g,cF]
   refine⟨_,rfl,λi hi=>?_⟩
   by_cases e:i=k
   ·subst e;exact λz=>g z.symm
   ·exact h i (by omega))
 rw[e,bS]
 cases o with
 | fin r=>rw[oF,bS,dT ho.1,dT ho.2]
 | go s =>
  rw[oG,bS,dF (by omega),dF]
  intro hv
  obtain⟨i,hi,rfl⟩:=List.getElem_of_mem hv
  apply ho i (by omega)
  rw[List.getD_eq_getElem?_getD,List.getElem?_eq_getElem hi];rfl
theorem K3{l:List Nat}{i:Int}(h:l.length≤1000):∃x,kV l i=some x∧∀p,0<p→Lt p l→x<p:=by
 unfold kV
 by_cases g:i<0
 ·rw[dT g,cT];exact⟨0,rfl,λp hp _=>hp⟩
 ·rw[dF g,cF]
  by_cases g2:i<l.length
  ·rw[dF (by omega),cF,aS 0 (by omega) g2,bS]
   exact⟨_,rfl,λp hp hl=>hl _ (by omega)⟩
  ·rw[dT (by omega),cT];exact⟨0,rfl,λp hp _=>hp⟩
theorem D6{w:ae}{n t:Nat}(s:Sc w n t){x:aD}{l said:List Nat}(hx:x∈w.aa)(hl:Lt w.S.P l)(hll:l.length≤1000)(hs:Lt w.S.P said)(hsl:said.length≤1000) :
  ∃r,kU w x l said=some r∧Lt w.S.P r∧r.length≤l.length:=by
 have hp:=s.sup
 have hlt:=hp.lt
 obtain⟨d1,d2,d3,d4,d5,d6,d7,d8⟩:=s.dv x hx
 unfold kU
 by_cases k4:x.Kind=4
 ·rw[eT k4,cT];exact⟨_,rfl,λi hi=>by simp at hi,by simp⟩
 ·rw[eF k4,cF]
  by_cases ha:x.At<(l.length:Int)
  ·have hk:=Nat.mod_lt x.K hp.pos
   have hat:x.At.toNat<l.length:=by omega
   have hla:=hl _ hat
   rw[dF (by omega),cF,zu hp d8,bS,vG (by omega),bS]
   by_cases k1:x.Kind=1
   ·rw[eT k1,cT,aS 0 d3 ha,bS,bS]
    exact⟨_,rfl,wj hl hk,by simp⟩
   ·rw[eF k1,cF]
    by_cases k2:x.Kind=2
    ·rw[eT k2,cT,aS 0 d3 ha,bS,wm hp (by omega),bS,bS]
     exact⟨_,rfl,wj hl (Nat.mod_lt _ hp.pos),by simp⟩
    ·rw[eF k2,cF]
     by_cases k3:x.Kind=3
     ·rw[eT k3,cT,oq,bS]
      obtain⟨y,ey,hy⟩:=K3 (l:=said) (i:=x.bG) (by omega)
      obtain⟨z,ez,hz⟩:∃z,(bif !(decide (x.Of∈w.af)) then kV said x.bG >>= λr5=>some r5 else some 0)=some z∧z<w.S.P:=by
       cases decide (x.Of∈w.af) with
       | false=>rw[nF,cT,ey,bS];exact⟨_,rfl,hy _ hp.pos hs⟩
       | true=>rw[nT,cF];exact⟨_,rfl,hp.pos⟩
      have hm:=Nat.mod_lt (x.K % w.S.P*z) hp.pos
      rw[ez,bS,aS 0 d3 ha,bS,jm hp hk hz,bS,wm hp (by omega),bS,bS]
      exact⟨_,rfl,wj hl (Nat.mod_lt _ hp.pos),by simp⟩
     ·rw[eF k3,cF];exact⟨_,rfl,hl,Nat.le_refl _⟩
  ·rw[dT (by omega),cT];exact⟨_,rfl,hl,Nat.le_refl _⟩
/-- messages between n parties: at most L words each, below p -/
structure Sq(p n L:Nat)(m:List (List (List Nat))):Prop where
 len:m.length=n
 row:∀i,i<n→(m.getD i []).length=n
 w:∀i,i<n→∀j,j<n→Lt p ((m.getD i []).getD j [])∧((m.getD i []).getD j []).length≤L
theorem Sq.s1{p n L i:Nat}{m:List (List (List Nat))}(s:Sq p n L m)(hi:i<n):m[i]?=some (m.getD i []):=ix [] (by rw[s.len];exact hi)
theorem Sq.s2{p n L i j:Nat}{m:List (List (List Nat))}(s:Sq p n L m)(hi:i<n)(hj:j<n):(m.getD i [])[j]?=some ((m.getD i []).getD j []):=ix [] (by rw[s.row i hi];exact hj)
theorem Sq.setW{p n L i j:Nat}{m:List (List (List Nat))}{r:List Nat}(s:Sq p n L m)(hi:i<n)(hj:j<n)(hr:Lt p r∧r.length≤L):Sq p n L (m.set i ((m.getD i []).set j r)):=by
 have hil:i<m.length:=by rw[s.len];exact hi
 refine⟨by rw[List.length_set];exact s.len,λk hk=>?_,λk hk q hq=>?_⟩
 ·rw[aN hil];split
  ·rw[List.length_set];exact s.row i hi
  ·exact s.row k hk
 ·rw[aN hil];split
  ·rw[aN (by rw[s.row i hi];exact hj)];split
   ·exact hr
   ·exact s.w i hi q hq
  ·exact s.w k hk q hq
/-- the deviations of a round -/
theorem FD{w:ae}{n t L:Nat}(s:Sc w n t){out:List (List (List Nat))}{round:Int}(ho:Sq w.S.P n L out)(hL:L≤1000) :
    ∃ all,bP w round out=some all∧(Sq w.S.P n L all∧∀ i,i < n→∀ j,j < n→((all.getD i []).getD j []).length≤((out.getD i []).getD j []).length)∧∀ i,i < n→(((i:Nat):Int)+1) ∉ w.af→all.getD i []=out.getD i []:=by
  have h13:=s.n13
  unfold bP
  rw [ho.len,ci (by omega) (by omega) (by omega) (by omega),bS,Nat.sub_zero,Int.toNat_natCast]
  obtain ⟨l3,e3,h1,h2⟩:=bm (body:=fun k1 (st:(List (List (List Nat))))=>dI out k1 st) (rem:=n) (k:=0) (s:=List.replicate n [])
    (fun k l=>l.length=n∧∀ i,i < k→l.getD i []=out.getD i []) ⟨by simp,fun i hi=>by omega⟩ (fun k l _ hk ⟨h1,h2⟩=>by
      have hk':k < n:=by omega
      unfold dI
      rw [ho.s1 hk',bS,rb (by rw [ho.row k hk'];omega),bS,ix [] (by omega),bS,bS]
      refine ⟨_,rfl,by rw [List.length_set];exact h1,fun i hi=>?_⟩
      rw [aN (by omega)]
      by_cases g:k=i
      · rw [if_pos g,g]
      · rw [if_neg g];exact h2 i (by omega))
  have hl3:l3=out:=by
    apply List.ext_getElem?
    intro i
    by_cases g:i < n
    · rw [ix [] (by omega),ix [] (by rw [ho.len];omega),h2 i (by omega)]
    · rw [List.getElem?_eq_none (by omega),List.getElem?_eq_none (by rw [ho.len];omega)]
  subst hl3
  rw [e3,bS,Nat.sub_zero]
  obtain ⟨all,e,k1,k2⟩:=bm (body:=fun k2 (st:(List (List (List Nat))))=>gV w round l3 k2 st) (rem:=w.aa.length) (k:=0) (s:=l3)
    (fun _ all=>(Sq w.S.P n L all∧∀ i,i < n→∀ j,j < n→((all.getD i []).getD j []).length≤((l3.getD i []).getD j []).length)∧∀ i,i < n→(((i:Nat):Int)+1) ∉ w.af→all.getD i []=l3.getD i []) ⟨⟨ho,fun _ _ _ _=>Nat.le_refl _⟩,fun _ _ _=>rfl⟩ (fun k all _ hk ⟨⟨k1,kl⟩,k2⟩=>by
      have hkd:k < w.aa.length:=by omega
      unfold gV
      rw [ix default hkd,bS]
      have hx:w.aa.getD k default ∈ w.aa:=by
        rw [List.getD_eq_getElem?_getD,List.getElem?_eq_getElem hkd];exact List.getElem_mem hkd
      generalize w.aa.getD k default=x at hx
      obtain ⟨d1,d2,d3,d4,d5,d6,d7,d8⟩:=s.dv x hx
      unfold kT
      by_cases g:x.Round=round∧x.From ∈ w.af
      · rw [eT g.1,cT,oq,bS,bS,dT g.2,nT,cF]
        have hf:x.From.toNat - 1 < n:=by omega
        have hfe:(x.From - 1).toNat=x.From.toNat - 1:=by omega
        obtain ⟨said,es,hs1,hs2⟩:∃ said,(bif x.Kind == (3:Int) then
            jB x.Of (1:Int) >>= fun x6=>gY l3 x6 >>= fun x7=>jB x.From (1:Int) >>= fun x8=>gY x7 x8 >>= fun x9=>some x9
          else some ([]:List Nat))=some said∧Lt w.S.P said∧said.length≤1000:=by
          by_cases k3:x.Kind=3
          · have h7:=d7 k3
            have hoe:(x.Of - 1).toNat < n:=by omega
            rw [eT k3,cT,cb (by omega) (by omega),bS,aS [] (by omega) (by rw [ho.len];omega),bS,cb (by omega) (by omega),bS,aS [] (by omega) (by rw [ho.row _ hoe];omega),bS]
            have:=ho.w _ hoe (x.From - 1).toNat (by omega)
            exact ⟨_,rfl,this.1,by omega⟩
          · rw [eF k3,cF];exact ⟨_,rfl,fun i hi=>by simp at hi,by simp⟩
        rw [es,bS,cb (by omega) (by omega),bS,aS [] (by omega) (by rw [k1.len];omega),bS,hfe,k1.row _ hf,bJ (by omega),bS,Nat.sub_zero]
        obtain ⟨all',e',q1,q2⟩:=bm (body:=fun k3 (st:(List (List (List Nat))))=>gW w x said (x.From - 1) k3 st) (rem:=n) (k:=0) (s:=all)
          (fun _ a=>(Sq w.S.P n L a∧∀ i,i < n→∀ j,j < n→((a.getD i []).getD j []).length≤((l3.getD i []).getD j []).length)∧∀ i,i < n→i≠x.From.toNat - 1→a.getD i []=all.getD i []) ⟨⟨k1,kl⟩,fun _ _ _=>rfl⟩ (fun j a _ hj ⟨⟨q1,ql⟩,q2⟩=>by
            have hjn:j < n:=by omega
            unfold gW
            rw [bi (by omega) (by omega),bS]
            have:∃ b,(bif (((j:Nat):Int)+1) != x.From then bif x.To == (0:Int) then some true else some (x.To == (((j:Nat):Int)+1)) else some false)=some b:=by
              by_cases g1:((j:Nat):Int)+1=x.From
              · rw [qF g1,cF];exact ⟨_,rfl⟩
              · rw [qT g1,cT]
                by_cases g2:x.To=0
                · rw [eT g2,cT];exact ⟨_,rfl⟩
                · rw [eF g2,cF];exact ⟨_,rfl⟩
            obtain ⟨b,eb⟩:=this
            rw [eb,bS]
            cases b with
            | false=>rw [cF];exact ⟨_,rfl,⟨q1,ql⟩,q2⟩
            | true =>
              rw [cT,aS [] (by omega) (by rw [q1.len];omega),bS,hfe,q1.s2 hf hjn,bS]
              obtain ⟨hw1,hw2⟩:=q1.w _ hf j hjn
              obtain ⟨r,er,r1,r2⟩:=D6 s hx hw1 (by omega) hs1 hs2
              rw [er,bS,bS,bS]
              have hql:=ql _ hf j hjn
              refine ⟨_,rfl,⟨q1.setW hf hjn ⟨r1,by omega⟩,fun i hi j' hj'=>?_⟩,fun i hi hne=>?_⟩
              · rw [aN (by rw [q1.len];exact hf)]
                by_cases g:x.From.toNat - 1=i
                · rw [if_pos g,aN (by rw [q1.row _ hf];exact hjn),← g]
                  by_cases g':j=j'
                  · rw [if_pos g',← g'];omega
                  · rw [if_neg g'];exact ql _ hf j' hj'
                · rw [if_neg g];exact ql i hi j' hj'
              rw [aN (by rw [q1.len];exact hf),if_neg (fun e=>hne e.symm)];exact q2 i hi hne)
        rw [e',bS]
        refine ⟨_,rfl,q1,fun i hi hc=>?_⟩
        rw [q2 i hi (fun e => hc (by rw [e]; have : ((x.From.toNat - 1 : Nat) : Int) + 1 = x.From := by omega
                                     rw [this];exact g.2))]
        exact k2 i hi hc
      · have:(bif x.Round == round then dh w.af x.From >>= fun r1=>some r1 else some false)=some false:=by
          by_cases g1:x.Round=round
          · rw [eT g1,cT,oq,bS,dF (fun h=>g ⟨g1,h⟩)]
          · rw [eF g1,cF]
        rw [this,bS,nF,cT]
        exact ⟨_,rfl,⟨k1,kl⟩,k2⟩)
  rw [e,bS]
  exact ⟨_,rfl,k1,k2⟩
/-- what a party receives in a round, as its view has it -/
def Bu(round:Int)(all:List (List (List Nat)))(j k:Nat):List am :=
 ((List.range k).filter λi=>decide (i≠j∧0<((all.getD i []).getD j []).length)).map λi=>⟨round,((i:Nat):Int)+1,(all.getD i []).getD j []⟩
theorem Ab{round:Int}{all:List (List (List Nat))}{j k:Nat}:(Bu round all j k).length≤k:=by
 unfold Bu;rw[List.length_map];exact Nat.le_trans (List.length_filter_le ..) (by simp)
theorem FW{round:Int}{all:List (List (List Nat))}{j k:Nat}:Bu round all j (k+1)=Bu round all j k++if k≠j∧0<((all.getD k []).getD j []).length then[⟨round,((k:Nat):Int)+1,(all.getD k []).getD j []⟩] else[]:=by
 unfold Bu
 rw[List.range_succ,List.filter_append,List.map_append]
 congr 1
 by_cases g:k≠j∧0<((all.getD k []).getD j []).length
 ·rw[if_pos g];simp only[List.filter_cons,decide_eq_true g,List.filter_nil];simp
 ·rw[if_neg g];simp only[List.filter_cons,decide_eq_false g,List.filter_nil];simp
theorem DO{net:ai}{j k:Nat}{l:List Nat}(hv:j<net.av.length)(hl:l.length≤1000)(hb:(net.av.getD j []).length≤1000)(hk:k≤1000) :
  jK net ((j:Nat):Int) ((k:Nat):Int) l=some (if k≠j∧0<l.length then net.av.set j (net.av.getD j []++[⟨net.ah,((k:Nat):Int)+1,l⟩]) else net.av):=by
 unfold jK
 by_cases g:j=k
 ·rw[qF (by omega),cF,bS,cF,if_neg (by omega)]
 ·rw[qT (by omega),cT]
  by_cases g2:0<l.length
  ·rw[dT (by omega),bS,cT,aS [] (by omega) (by omega),bS,bi (by omega) (by omega),bS,aM (by simp;omega) (by simp;omega),bS,List.nil_append]
   simp only[Int.toNat_natCast]
   rw[aM (by simp only[List.length_cons,List.length_nil];omega) (by simp only[List.length_cons,List.length_nil];omega),bS,bS,if_pos ⟨λe=>g e.symm,g2⟩]
  ·rw[dF (by omega),bS,cF,if_neg (λh=>g2 h.2)]
/-- a round -/
theorem AJ{net:ai}{n t L:Nat}(s:Sc net.zw n t){out:List (List (List Nat))}(ho:Sq net.zw.S.P n L out)(hL:L≤1000)(hv:net.av.length=n)(hb:∀j,j<n→(net.av.getD j []).length≤500)(hr:0≤net.ah∧net.ah≤1000) :
  ∃all inn views,bP net.zw net.ah out=some all∧iA net out=some (inn,net.ah+1,views)∧(Sq net.zw.S.P n L all∧∀i,i<n→∀j,j<n→((all.getD i []).getD j []).length≤((out.getD i []).getD j []).length)∧(∀i,i<n→(((i:Nat):Int)+1)∉net.zw.af→all.getD i []=out.getD i []) ∧
   inn.length=n∧(∀j,j<n→(inn.getD j []).length=n∧∀i,i<n→(inn.getD j []).getD i []=(all.getD i []).getD j [])∧views.length=n∧∀j,j<n→views.getD j []=net.av.getD j []++Bu net.ah all j n:=by
 have h13:=s.n13
 obtain⟨all,ea,⟨q1,ql⟩,q2⟩:=FD (round:=net.ah) s ho hL
 unfold iA
 rw[ea,bS,s.N,ci (by omega) (by omega) (by omega) (by omega),bS,Int.toNat_natCast,List.length_replicate,Nat.sub_zero]
 obtain⟨⟨views,inn⟩,e,h1,h2,h3,h4,h5,h6⟩:=bm (body:=λk1 (st:(List (List am))×(List (List (List Nat))))=>hO net all k1 st.1 st.2) (rem:=n) (k:=0) (s:=(net.av,List.replicate n []))
  (λk st=>st.1.length=n∧st.2.length=n∧(∀j,j<k→st.1.getD j []=net.av.getD j []++Bu net.ah all j n)∧(∀j,k≤j→st.1.getD j []=net.av.getD j [])∧(∀j,j<k→(st.2.getD j []).length=n∧∀i,i<n→(st.2.getD j []).getD i []=(all.getD i []).getD j [])∧(∀j,k≤j→st.2.getD j []=[]))
  ⟨hv,by simp,λj hj=>by omega,λ_ _=>rfl,λj hj=>by omega,λj _=>by by_cases g:j<n <;> simp[List.getD_eq_getElem?_getD,g]⟩ (λj st _ hj ⟨h1,h2,h3,h4,h5,h6⟩=>by
   have hjn:j<n:=by omega
   unfold hO
   have hmx:max 0 net.zw.S.N.toNat=n:=by rw[s.N];simp
   rw[hmx,bJ (by omega),bS,Nat.sub_zero]
   obtain⟨⟨v',i'⟩,e',g1,g2,g3,g4,g5,g6,g7⟩:=bm (body:=λk2 (st:(List (List am))×(List (List (List Nat))))=>hQ net all j k2 st.1 st.2) (rem:=n) (k:=0) (s:=(st.1,st.2))
    (λk q=>q.1.length=n∧q.2.length=n∧q.1.getD j []=net.av.getD j []++Bu net.ah all j k∧(∀i,i≠j→q.1.getD i []=st.1.getD i [])∧(q.2.getD j []).length=k∧(∀i,i<k→(q.2.getD j []).getD i []=(all.getD i []).getD j [])∧(∀i,i≠j→q.2.getD i []=st.2.getD i []))
    ⟨h1,h2,by rw[h4 j (Nat.le_refl j)];simp[Bu],λ_ _=>rfl,by rw[h6 j (Nat.le_refl j)];rfl,λi hi=>by omega,λ_ _=>rfl⟩ (λk q _ hk ⟨g1,g2,g3,g4,g5,g6,g7⟩=>by
     have hkn:k<n:=by omega
     obtain⟨w1,w2⟩:=q1.w k hkn j hjn
     have hel:=Ab (round:=net.ah) (all:=all) (j:=j) (k:=k)
     have hbj:=hb j hjn
     have hq1:(q.1.getD j []).length≤600:=by rw[g3,List.length_append];omega
     unfold hQ
     rw[q1.s1 hkn,bS,q1.s2 hkn hjn,bS,aM (by simp only[List.length_nil];omega) (by simp only[List.length_nil];omega),bS,List.nil_append,ix [] (by omega),bS,aM (by rw[g5];simp;omega) (by rw[g5];simp;omega),bS,bS,DO (net:=⟨net.zw,net.ah,q.1,net.ak⟩) (by show j<q.1.length;omega) (by omega) (by show(q.1.getD j []).length≤1000;omega) (by omega),bS]
     refine⟨_,rfl,?_,by show(q.2.set j _).length=n;rw[List.length_set];exact g2,?_,λi hi=>?_,?_,λi hi=>?_,λi hi=>?_⟩
     ·show(if _ then q.1.set j _ else q.1).length=n
      split
      ·rw[List.length_set];exact g1
      ·exact g1
     ·show(if _ then q.1.set j _ else q.1).getD j []=_
      rw[FW]
      split
      ·rw[aN (by omega),if_pos rfl,g3,List.append_assoc]
      ·rw[List.append_nil];exact g3
     ·show(if _ then q.1.set j _ else q.1).getD i []=_
      split
      ·rw[aN (by omega),if_neg (λe=>hi e.symm)];exact g4 i hi
      ·exact g4 i hi
     ·show((q.2.set j _).getD j []).length=_
      rw[aN (by omega),if_pos rfl,List.length_append,g5];rfl
     ·show((q.2.set j _).getD j []).getD i []=_
      rw[aN (by omega),if_pos rfl]
      by_cases g:i<k
      ·rw[cA (by omega)];exact g6 i g
      ·have:i=k:=by omega
       subst this
       exact df g5.symm
     ·show(q.2.set j _).getD i []=_
      rw[aN (by omega),if_neg (λe=>hi e.symm)];exact g7 i hi)
   rw[Nat.zero_add] at g3 g5 g6
   simp only at g1 g2 g3 g4 g5 g6 g7
   rw[e',bS]
   refine⟨_,rfl,g1,g2,λi hi=>?_,λi hi=>?_,λi hi=>?_,λi hi=>?_⟩
   ·by_cases g:i=j
    ·subst g;exact g3
    ·show v'.getD i []=_;rw[g4 i g];exact h3 i (by omega)
   ·show v'.getD i []=_;rw[g4 i (by omega)];exact h4 i (by omega)
   ·by_cases g:i=j
    ·subst g;exact⟨g5,g6⟩
    ·show(i'.getD i []).length=n∧_
     simp only
     rw[g7 i g];exact h5 i (by omega)
   ·show i'.getD i []=_;rw[g7 i (by omega)];exact h6 i (by omega))
 rw[Nat.zero_add] at h3 h5
 simp only at h1 h2 h3 h5
 rw[e,bS]
 simp only
 rw[bi (by omega) (by omega),bS]
 exact⟨_,_,_,rfl,rfl,⟨q1,ql⟩,q2,h2,h5,h1,h3⟩
theorem nS{l:List Nat}{m:Nat}(hm:m≤1000):∃r,eg l ((m:Nat):Int)=some r∧r.length=m∧∀k,k<m→r.getD k 0=l.getD k 0:=by
 unfold eg
 rw[ci (by omega) (by omega) (by omega) (by omega),bS,Int.toNat_natCast]
 refine⟨_,rfl,by unfold jd;simp;omega,λk hk=>?_⟩
 unfold jd
 rw[List.length_replicate]
 by_cases g:k<l.length
 ·rw[cA (by simp;omega),List.getD_eq_getElem?_getD,List.getElem?_take,if_pos (by omega),←List.getD_eq_getElem?_getD]
 ·rw[lA (l:=l) (by omega),List.getD_eq_getElem?_getD,List.getElem?_append_right (by simp;omega),List.getElem?_drop]
  have:(min l.length m+(k-(l.take (min l.length m)).length))<m:=by simp;omega
  rw[List.getElem?_replicate,if_pos this];rfl
end Pu

/- Plain laws of scenarios: what the reference calls valid the program calls valid, and the networks stand. -/
set_option linter.unusedVariables false
namespace Pu
open Gw Gl Sp
structure Va(w:ae)(n t:Nat):Prop extends Sc w n t where
 ord:∀i,0<i→i<w.af.length→w.af.getD (i-1) 0<w.af.getD i 0
 tl:w.ay.length=n
 tb:∀i,i<n→∀j,j<(w.ay.getD i []).length→(w.ay.getD i []).getD j 0<w.S.P
 ts:∀i,i<n→(w.ay.getD i []).length≤1000
 full:∀x∈w.aa,0≤x.Round∧0≤x.To∧x.To≤n∧1≤x.Kind∧x.Kind≤4
theorem FX{p:Nat}{l:List Int}{j:Nat}{x:Int}(hl:l[j]?=some x)(hx:5≤x∧x≤61):gu p l j=some (if p=2 ^ x.toNat-1 then .fin x else .go ()):=by
 unfold gu
 obtain⟨q,rfl⟩:∃q:Nat,x=q:=⟨x.toNat,by omega⟩
 have hq:q≤61:=by omega
 have hu:sE ((q:Nat):Int)=q:=by unfold sE;omega
 have h2:2 ^ q≤2 ^ 61:=Nat.pow_le_pow_right (by decide) hq
 have h3:1≤2 ^ q:=Nat.one_le_two_pow
 rw[hl,bS,hu,bS,zG (by omega),bS,Nat.one_mul,Nat.mod_eq_of_lt (by omega),xS h3 (by omega),bS,Int.toNat_natCast]
 by_cases g:p=2 ^ q-1
 ·rw[zz g,cT,if_pos g]
 ·rw[Qr g,cF,if_neg g]
theorem M4{p:Nat}{x:Int}(h:x∈([5,7,13,17,19,31,61]:List Int))(e:p=2 ^ x.toNat-1):fQ p:=by
 simp only[List.mem_cons,List.not_mem_nil,or_false] at h
 unfold fQ
 rcases h with rfl | rfl | rfl | rfl | rfl | rfl | rfl <;> simp at e <;> omega
theorem MV{p:Nat}:∃b,ij p=some b∧(b=true→fQ p):=by
 unfold ij ky
 have he:nj=some [5,7,13,17,19,31,61]:=rfl
 rw[he,bS]
 obtain⟨o,e,ho⟩:=im (body:=λk1 (st:Unit)=>gu p [5,7,13,17,19,31,61] k1) (λ_ _=>True) (λr=>fQ p) (rem:=([5,7,13,17,19,31,61]:List Int).length-0) (k:=0) (s:=()) trivial (λj _ _ hj _=>by
  have hj':j<7:=by simpa using hj
  obtain⟨x,hx,hm⟩:∃x,([5,7,13,17,19,31,61]:List Int)[j]?=some x∧x∈([5,7,13,17,19,31,61]:List Int):=⟨_,List.getElem?_eq_getElem (by simpa using hj'),List.getElem_mem _⟩
  have hb:5≤x∧x≤61:=by
   simp only[List.mem_cons,List.not_mem_nil,or_false] at hm
   rcases hm with rfl | rfl | rfl | rfl | rfl | rfl | rfl <;> decide
  rw[FX hx hb]
  refine⟨_,rfl,?_⟩
  split
  ·next g=>exact M4 hm g
  ·trivial)
 rw[e]
 simp only[bS]
 cases o with
 | fin r=>rw[oF];simp only[bS];exact⟨_,rfl,λ_=>ho⟩
 | go s=>rw[oG];simp only[bS];exact⟨_,rfl,λh=>by simp at h⟩
theorem MC{p:Nat}(hp:fQ p):oV p=some true:=by
 rcases hp with rfl | rfl | rfl | rfl | rfl | rfl | rfl <;> decide +kernel
structure Nw(s:aF)(n t:Nat):Prop where
 sup:fQ s.P
 N:s.N=n
 T:s.T=t
 n4:4≤n
 n13:n≤13
 t1:1≤t
 t3:3*t<n
theorem BV{s:aF}:∃b,iG s=some b∧(b=true→∃n t,Nw s n t):=by
 unfold iG
 obtain⟨b,e,hb⟩:=MV (p:=s.P)
 rw[e,bS]
 cases b with
 | false=>rw[cF];exact⟨_,rfl,λh=>by cases h⟩
 | true =>
  rw[cT]
  have hp:=hb rfl
  by_cases h1:s.N≥4
  ·rw[dT h1,cT]
   by_cases h2:s.N≤13
   ·rw[dT h2,cT,bS]
    by_cases h3:((sE s.N:Nat):Int)<((s.P:Nat):Int)
    ·rw[dT h3,cT]
     by_cases h4:s.T≥1
     ·rw[dT h4,cT]
      by_cases h5:s.T<s.N
      ·rw[dT h5,cT,iy (by omega) (by omega),bS]
       refine⟨_,rfl,λh=>?_⟩
       have h6:=of_decide_eq_true h
       exact⟨s.N.toNat,s.T.toNat,hp,by omega,by omega,by omega,by omega,by omega,by omega⟩
      ·rw[dF h5,cF];exact⟨_,rfl,λh=>by cases h⟩
     ·rw[dF h4,cF];exact⟨_,rfl,λh=>by cases h⟩
    ·rw[dF h3,cF];exact⟨_,rfl,λh=>by cases h⟩
   ·rw[dF h2,cF];exact⟨_,rfl,λh=>by cases h⟩
  ·rw[dF h1,cF];exact⟨_,rfl,λh=>by cases h⟩
theorem GA{s:aF}{n t:Nat}(h:Nw s n t):po s=some true:=by
 have h1:=h.n4;have h2:=h.n13;have h3:=h.t1;have h4:=h.t3;have h5:=h.sup.lt
 unfold po
 have hu:sE ((n:Nat):Int)=n:=by unfold sE;omega
 rw[MC h.sup,bS,cT,h.N,h.T,dT (by omega),cT,dT (by omega),cT,bS,hu,dT (by omega),cT,dT (by omega),cT,dT (by omega),cT,iy (by omega) (by omega),bS,dT (by omega)]
theorem Kx{s:aF}{l:List Int}:∃b,ft s l=some b∧(b=true→∃n t,Nw s n t∧l.length≤t∧(∀x∈l,1≤x∧x≤n)∧∀i,0<i→i<l.length→l.getD (i-1) 0<l.getD i 0):=by
 unfold ft
 obtain⟨b,e,hb⟩:=BV (s:=s)
 rw[e,bS]
 cases b with
 | false=>rw[nF,cT,bS,cT];exact⟨_,rfl,λh=>by cases h⟩
 | true =>
  obtain⟨n,t,par⟩:=hb rfl
  have hT:=par.T;have hN:=par.N;have h13:=par.n13;have h3:=par.t3
  rw[nT,cF,bS]
  by_cases g:l.length≤t
  ·rw[dF (by omega),cF,Nat.sub_zero]
   obtain⟨o,e,ho⟩:=im (body:=λk1 (st:Unit)=>fX s l k1) (λk _=>∀i,i<k→(1≤l.getD i 0∧l.getD i 0≤n)∧(0<i→l.getD (i-1) 0<l.getD i 0)) (λr=>r=false) (rem:=l.length) (k:=0) (s:=()) (λi hi=>by omega) (λk _ _ hk h=>by
    have hkl:k<l.length:=by omega
    unfold fX
    rw[ix 0 hkl,bS,hN]
    by_cases c1:l.getD k 0<1
    ·rw[dT c1,cT];exact⟨_,rfl,rfl⟩
    ·rw[dF c1,cF]
     by_cases c2:l.getD k 0>n
     ·rw[dT c2,cT];exact⟨_,rfl,rfl⟩
     ·rw[dF c2,cF]
      by_cases c3:((k:Nat):Int)>0
      ·have e1:(((k:Nat):Int)-1).toNat=k-1:=by omega
       rw[dT c3,cT,cb (by omega) (by omega),bS,aS 0 (by omega) (by omega),bS,e1]
       by_cases c4:l.getD k 0≤l.getD (k-1) 0
       ·rw[dT c4,cT];exact⟨_,rfl,rfl⟩
       ·rw[dF c4,cF]
        refine⟨_,rfl,λi hi=>?_⟩
        by_cases g:i=k
        ·subst g;exact⟨⟨by omega,by omega⟩,λ_=>by omega⟩
        ·exact h i (by omega)
      ·rw[dF c3,cF]
       refine⟨_,rfl,λi hi=>?_⟩
       by_cases g:i=k
       ·subst g;exact⟨⟨by omega,by omega⟩,λ_=>by omega⟩
       ·exact h i (by omega))
   rw[e,bS]
   cases o with
   | fin r=>rw[oF];exact⟨_,rfl,λh=>by rw[ho] at h;cases h⟩
   | go _ =>
    rw[oG]
    rw[Nat.zero_add] at ho
    refine⟨_,rfl,λ_=>⟨n,t,par,g,λx hx=>?_,λi h1 h2=>(ho i h2).2 h1⟩⟩
    obtain⟨i,hi,rfl⟩:=List.getElem_of_mem hx
    have:=(ho i hi).1
    rw[List.getD_eq_getElem?_getD,List.getElem?_eq_getElem hi] at this
    exact this
  ·rw[dT (by omega),cT];exact⟨_,rfl,λh=>by cases h⟩
theorem J6{s:aF}{l:List Int}{n t:Nat}(par:Nw s n t)(hl:l.length≤t)(hr:∀x∈l,1≤x∧x≤n)(ho:∀i,0<i→i<l.length→l.getD (i-1) 0<l.getD i 0):iM s l=some true:=by
 have hT:=par.T;have hN:=par.N;have h13:=par.n13;have h3:=par.t3
 unfold iM
 rw[GA par,bS,nT,cF,bS,hT,dF (by omega),cF,Nat.sub_zero]
 obtain⟨o,e,hq⟩:=im (body:=λk1 (st:Unit)=>jo s l k1) (λ_ _=>True) (λ_=>False) (rem:=l.length) (k:=0) (s:=()) trivial (λk _ _ hk _=>by
  have hkl:k<l.length:=by omega
  have hm:l.getD k 0∈l:=by rw[List.getD_eq_getElem?_getD,List.getElem?_eq_getElem hkl];exact List.getElem_mem hkl
  have hx:=hr _ hm
  unfold jo
  rw[ix 0 hkl,bS,hN,dF (by omega),cF,dF (by omega),cF]
  by_cases c3:((k:Nat):Int)>0
  ·have e1:(((k:Nat):Int)-1).toNat=k-1:=by omega
   have:=ho k (by omega) hkl
   rw[dT c3,cT,cb (by omega) (by omega),bS,aS 0 (by omega) (by omega),bS,e1,dF (by omega),cF]
   exact⟨_,rfl,trivial⟩
  ·rw[dF c3,cF];exact⟨_,rfl,trivial⟩)
 rw[e,bS]
 cases o with
 | fin r=>exact hq.elim
 | go _=>rw[oG]
/-- a valid deviation -/
def Dv(s:aF)(x:aD):Prop:=0≤x.Round∧0≤x.At∧0≤x.bG∧1≤x.From∧x.From≤s.N∧0≤x.To∧x.To≤s.N∧1≤x.Kind∧x.Kind≤4∧0≤x.Of∧x.Of≤s.N∧(x.Kind=3→1≤x.Of)
theorem bC{c:Prop}[Decidable c]{X:Option Bool}{Q:Prop}(h:c→∃b,X=some b∧(b=true→Q)):∃b,(bif decide c then X else some false)=some b∧(b=true→Q):=by
 by_cases g:c
 ·rw[dT g,cT];exact h g
 ·rw[dF g,cF];exact⟨_,rfl,λh=>by cases h⟩
theorem MU{s:aF}{x:aD}:∃b,il s x=some b∧(b=true→Dv s x):=by
 unfold il
 refine bC λh1=>bC λh2=>bC λh3=>bC λh4=>bC λh5=>bC λh6=>bC λh7=>bC λh8=>bC λh9=>bC λh10=>bC λh11=>?_
 by_cases k:x.Kind=3
 ·rw[qF k,cF]
  exact⟨_,rfl,λh=>⟨h1,h2,h3,h4,h5,h6,h7,h8,h9,h10,h11,λ_=>of_decide_eq_true h⟩⟩
 ·rw[qT k,cT]
  exact⟨_,rfl,λh=>⟨h1,h2,h3,h4,h5,h6,h7,h8,h9,h10,h11,λe=>absurd e k⟩⟩
theorem MB{s:aF}{x:aD}(h:Dv s x):rZ s x=some true:=by
 obtain⟨h1,h2,h3,h4,h5,h6,h7,h8,h9,h10,h11,h12⟩:=h
 unfold rZ
 by_cases k:x.Kind=3
 ·have:=h12 k
  rw[eT k,cT,bS,dT h1,cT,dT h2,cT,dT h3,cT,dT h4,cT,dT h5,cT,dT h6,cT,dT h7,cT,dT h8,cT,dT h9,cT,dT (by omega),cT,dT h11]
 ·rw[eF k,cF,bS,dT h1,cT,dT h2,cT,dT h3,cT,dT h4,cT,dT h5,cT,dT h6,cT,dT h7,cT,dT h8,cT,dT h9,cT,dT (by omega),cT,dT h11]
theorem Hs{p:Nat}{l:List Nat}:∃b,ki p l=some b∧(b=true→Lt p l):=by
 unfold ki
 rw[Nat.sub_zero]
 obtain⟨o,e,ho⟩:=im (body:=λk1 (st:Unit)=>kz p l k1) (λk _=>∀i,i<k→l.getD i 0<p) (λr=>r=false) (rem:=l.length) (k:=0) (s:=()) (λi hi=>by omega) (λk _ _ hk h=>by
  unfold kz
  rw[ix 0 (by omega),bS]
  by_cases g:l.getD k 0<p
  ·rw[dF (by omega),cF]
   refine⟨_,rfl,λi hi=>?_⟩
   by_cases e:i=k
   ·subst e;exact g
   ·exact h i (by omega)
  ·rw[dT (by omega),cT];exact⟨_,rfl,rfl⟩)
 rw[e,bS]
 cases o with
 | fin r=>rw[oF];exact⟨_,rfl,λh=>by rw[ho] at h;cases h⟩
 | go _=>rw[oG];exact⟨_,rfl,λ_ i hi=>ho i (by omega)⟩
theorem Ky{w:ae}:∃b,dB w=some b∧(b=true→∃n t,Nw w.S n t∧w.af.length≤t∧(∀x∈w.af,1≤x∧x≤n)∧(∀i,0<i→i<w.af.length→w.af.getD (i-1) 0<w.af.getD i 0)∧w.ay.length=n∧(∀i,i<w.aa.length→Dv w.S (w.aa.getD i default))∧∀i,i<w.ay.length→Lt w.S.P (w.ay.getD i [])):=by
 unfold dB
 obtain⟨b,e,hb⟩:=BV (s:=w.S)
 rw[e,bS]
 cases b with
 | false=>rw[nF,cT,bS,cT];exact⟨_,rfl,λh=>by cases h⟩
 | true =>
  rw[nT,cF]
  obtain⟨b,e,hb⟩:=Kx (s:=w.S) (l:=w.af)
  rw[e,bS]
  cases b with
  | false=>rw[nF,cT,bS,cT];exact⟨_,rfl,λh=>by cases h⟩
  | true =>
   obtain⟨n,t,par,c1,c2,c3⟩:=hb rfl
   rw[nT,cF,bS]
   by_cases g:w.ay.length=n
   ·rw[qF (by rw[g,par.N]),cF,Nat.sub_zero,Nat.sub_zero]
    obtain⟨o,e,ho⟩:=im (body:=λk1 (st:Unit)=>gz w k1) (λk _=>∀i,i<k→Dv w.S (w.aa.getD i default)) (λr=>r=false) (rem:=w.aa.length) (k:=0) (s:=()) (λi hi=>by omega) (λk _ _ hk h=>by
     unfold gz
     rw[ix default (by omega),bS]
     obtain⟨b,e,hb⟩:=MU (s:=w.S) (x:=w.aa.getD k default)
     rw[e,bS]
     cases b with
     | false=>rw[nF,cT];exact⟨_,rfl,rfl⟩
     | true =>
      rw[nT,cF]
      refine⟨_,rfl,λi hi=>?_⟩
      by_cases e:i=k
      ·subst e;exact hb rfl
      ·exact h i (by omega))
    rw[e,bS]
    cases o with
    | fin r=>rw[oF];exact⟨_,rfl,λh=>by rw[ho] at h;cases h⟩
    | go _ =>
     rw[oG]
     obtain⟨o,e,hq⟩:=im (body:=λk1 (st:Unit)=>gE w k1) (λk _=>∀i,i<k→Lt w.S.P (w.ay.getD i [])) (λr=>r=false) (rem:=w.ay.length) (k:=0) (s:=()) (λi hi=>by omega) (λk _ _ hk h=>by
      unfold gE
      rw[ix [] (by omega),bS]
      obtain⟨b,e,hb⟩:=Hs (p:=w.S.P) (l:=w.ay.getD k [])
      rw[e,bS]
      cases b with
      | false=>rw[nF,cT];exact⟨_,rfl,rfl⟩
      | true =>
       rw[nT,cF]
       refine⟨_,rfl,λi hi=>?_⟩
       by_cases e:i=k
       ·subst e;exact hb rfl
       ·exact h i (by omega))
     rw[e,bS]
     cases o with
     | fin r=>rw[oF];exact⟨_,rfl,λh=>by rw[hq] at h;cases h⟩
     | go _=>rw[oG];exact⟨_,rfl,λ_=>⟨n,t,par,c1,c2,c3,g,λi hi=>ho i (by omega),λi hi=>hq i (by omega)⟩⟩
   ·rw[qT (by rw[par.N];omega),cT];exact⟨_,rfl,λh=>by cases h⟩
theorem Va.par{w:ae}{n t:Nat}(v:Va w n t):Nw w.S n t:=⟨v.sup,v.N,v.T,v.n4,v.n13,v.t1,v.t3⟩
end Pu

/- Plain laws of the reference's small functions, and of opening shares. -/
set_option linter.unusedVariables false
namespace Pu
open Gw Gl Sp Lean.Grind
theorem zx{p a b:Nat}(hp:fQ p)(ha:a<p)(hb:b<18446744073709551616):jM p a b=some (a*b % p):=by
 have hl:=hp.lt
 unfold jM
 obtain⟨r,e,hr⟩:=kK (step:=λ(st:Nat×Nat×Nat)=>fL p st.1 st.2.1 st.2.2) (λst=>st.1<p∧st.2.1<18446744073709551616∧st.2.2<p∧(st.2.2+st.1*st.2.1) % p=a*b % p) (λr=>r=a*b % p) (λst=>st.2.1) (λst ⟨h1,h2,h3,h4⟩=>by
  obtain⟨x,m,o⟩:=st
  replace h1:x<p:=h1
  replace h2:m<18446744073709551616:=h2
  replace h3:o<p:=h3
  replace h4:(o+x*m) % p=a*b % p:=h4
  show ∃q,fL p x m o=some q∧_
  unfold fL
  by_cases c:m=0
  ·subst c
   rw[dF (by omega),cF]
   refine⟨_,rfl,?_⟩
   show o=_
   rw[←h4,Nat.mul_zero,Nat.add_zero,Nat.mod_eq_of_lt h3]
  ·have r2:∀y,xF y 2=some (y % 2):=λy=>by unfold xF;rw[if_neg (by decide)]
   have rp:∀y,xF y p=some (y % p):=λy=>by unfold xF;rw[if_neg (by omega)]
   have d2:Ep m 2=some (m / 2):=by unfold Ep;rw[if_neg (by decide),Nat.mod_eq_of_lt (by omega)]
   have a1:og o x=o+x:=Nat.mod_eq_of_lt (by omega)
   have a2:og x x=x+x:=Nat.mod_eq_of_lt (by omega)
   have hx:(x+x)*(m / 2)=x*(2*(m / 2)):=by rw[←Nat.two_mul,Nat.mul_assoc,Nat.mul_left_comm,Nat.mul_left_comm]
   rw[dT (by omega),cT,r2,bS]
   by_cases g:m % 2=1
   ·rw[eT (by omega),cT,a1,bS,rp,bS,a2,bS,rp,bS,d2,bS]
    refine⟨_,rfl,⟨Nat.mod_lt _ hp.pos,by show m / 2<_;omega,Nat.mod_lt _ hp.pos,?_⟩,by show m / 2<m;omega⟩
    show((o+x) % p+(x+x) % p*(m / 2)) % p=_
    rw[←h4,Nat.add_mod,Nat.mul_mod,Nat.mod_mod,Nat.mod_mod,←Nat.mul_mod,←Nat.add_mod,hx]
    congr 1
    have:m=1+2*(m / 2):=by omega
    conv=>rhs;rw[this,Nat.mul_add,Nat.mul_one]
    omega
   ·rw[eF (by omega),cF,a2,bS,rp,bS,d2,bS]
    refine⟨_,rfl,⟨Nat.mod_lt _ hp.pos,by show m / 2<_;omega,h3,?_⟩,by show m / 2<m;omega⟩
    show(o+(x+x) % p*(m / 2)) % p=_
    rw[←h4,Nat.add_mod,Nat.mul_mod,Nat.mod_mod,←Nat.mul_mod,←Nat.add_mod,hx]
    congr 3
    omega)
  (s:=(a,b,0)) ⟨ha,hb,hp.pos,by simp⟩ hb
 rw[e,bS,hr]
theorem EW{p a b:Nat}(hp:fQ p)(h:a+b<18446744073709551616):nR p a b=some ((a+b) % p):=by
 have hl:=hp.lt
 unfold nR
 have a1:og a b=a+b:=Nat.mod_eq_of_lt h
 rw[a1,bS]
 unfold xF
 rw[if_neg (by omega),bS]
section
variable {p:Nat}[NeZero p]
end
theorem zk{w:List Nat}(h:w.length≤1000):∃pts,eh w=some pts∧pts.length=w.length∧∀i,i<w.length→pts.getD i default=⟨i+1,w.getD i 0⟩:=by
 unfold eh
 rw[Nat.sub_zero]
 obtain⟨l,e,h1,h2⟩:=bm (body:=λk1 (st:(List aH))=>kC w k1 st) (rem:=w.length) (k:=0) (s:=([]:List aH)) (λk l=>l.length=k∧∀i,i<k→l.getD i default=⟨i+1,w.getD i 0⟩) ⟨rfl,λi hi=>by omega⟩ (λk l _ hk ⟨h1,h2⟩=>by
  unfold kC
  have hu:sE (((k:Nat):Int)+1)=k+1:=by unfold sE;omega
  rw[ix 0 (by omega),bS,bi (by omega) (by omega),bS,hu,bS,aM (by rw[h1];simp;omega) (by rw[h1];simp;omega),bS]
  refine⟨_,rfl,by simp[h1],λi hi=>?_⟩
  by_cases g:i<k
  ·rw[cA (by omega)];exact h2 i g
  ·have:i=k:=by omega
   subst this
   rw[df h1.symm])
 rw[Nat.zero_add] at h1 h2
 rw[e,bS]
 exact⟨_,rfl,h1,h2⟩
theorem Hl{p:Nat}(hp:fQ p){w:List Nat}{pts:List aH}(hw:Lt p w)(hl:w.length≤13)(h1:pts.length=w.length)(h2:∀i,i<w.length→pts.getD i default=⟨i+1,w.getD i 0⟩):Nx p pts:=by
 have hlt:=hp.lt
 refine⟨λi hi=>?_,λi hi=>?_,λi hi j hj=>?_⟩
 ·rw[h2 i (by omega)];show i+1<p;omega
 ·rw[h2 i (by omega)];exact hw i (by omega)
 ·rw[h2 i (by omega),h2 j (by omega)];show j+1≠i+1;omega
theorem xT{l1:List Int}:∀{l2:List Int},l1.Nodup→(∀x∈l1,x∈l2)→l1.length≤l2.length:=by
 induction l1 with
 | nil=>intro l2 _ _;simp
 | cons x t ih =>
  intro l2 hn hs
  have hx:x∈l2:=hs x (by simp)
  have hl2:=(List.perm_cons_erase hx).length_eq
  rw[List.nodup_cons] at hn
  have:=ih (l2:=l2.erase x) hn.2 (λy hy=>(List.mem_erase_of_ne (by intro e;subst e;exact hn.1 hy)).2 (hs y (by simp[hy])))
  simp at hl2 ⊢;omega
/-- what party j heard of the k-th words -/
def wd(all:List (List (List Nat)))(n j k:Nat):List Nat:=(List.range n).map λi=>((all.getD i []).getD j []).getD k 0
theorem C8{all:List (List (List Nat))}{n j k:Nat}:(wd all n j k).length=n:=by simp[wd]
theorem C7{all:List (List (List Nat))}{n j k i:Nat}(hi:i<n):(wd all n j k).getD i 0=((all.getD i []).getD j []).getD k 0:=by
 unfold wd;simp[List.getD_eq_getElem?_getD,hi]
/-- telling lists to all, and hearing them -/
theorem KC{net:ai}{n t L m:Nat}(s:Sc net.zw n t){lists:List (List Nat)}(h1:lists.length=n)(h2:∀i,i<n→Lt net.zw.S.P (lists.getD i [])∧(lists.getD i []).length≤L)(hL:L≤1000)(hm:m≤1000)(hv:net.av.length=n)(hb:∀j,j<n→(net.av.getD j []).length≤500)(hr:0≤net.ah∧net.ah≤1000) :
  ∃all heard views,lI net lists ((m:Nat):Int)=some (heard,net.ah+1,views)∧Sq net.zw.S.P n L all∧(∀i,i<n→(((i:Nat):Int)+1)∉net.zw.af→∀j,j<n→(all.getD i []).getD j []=lists.getD i []) ∧
   heard.length=n∧(∀j,j<n→(heard.getD j []).length=m∧∀k,k<m→(heard.getD j []).getD k []=wd all n j k)∧views.length=n∧∀j,j<n→views.getD j []=net.av.getD j []++Bu net.ah all j n:=by
 have h13:=s.n13
 have hp:=s.sup
 unfold lI
 rw[h1,ci (by omega) (by omega) (by omega) (by omega),bS,Int.toNat_natCast,Nat.sub_zero]
 obtain⟨out,e1,o1,o2,_⟩:=bm (body:=λk1 (st:(List (List (List Nat))))=>lS lists k1 st) (rem:=n) (k:=0) (s:=List.replicate n [])
  (λk l=>l.length=n∧(∀i,i<k→l.getD i []=List.replicate n (lists.getD i []))∧∀i,k≤i→l.getD i []=[]) ⟨by simp,λi hi=>by omega,λi _=>by by_cases g:i<n <;> simp[List.getD_eq_getElem?_getD,g]⟩ (λk l _ hk ⟨g1,g2,g3⟩=>by
   have hkn:k<n:=by omega
   unfold lS
   rw[ix [] (by omega),bS,h1,Nat.sub_zero]
   obtain⟨l',e',q1,q2,q3⟩:=bm (body:=λk2 (st:(List (List (List Nat))))=>lT k (lists.getD k []) k2 st) (rem:=n) (k:=0) (s:=l)
    (λq l'=>l'.length=n∧l'.getD k []=List.replicate q (lists.getD k [])∧∀i,i≠k→l'.getD i []=l.getD i []) ⟨g1,by rw[g3 k (Nat.le_refl k)];rfl,λ_ _=>rfl⟩ (λq l' _ hq ⟨q1,q2,q3⟩=>by
     unfold lT
     rw[ix [] (by omega),bS,q2,aM (by simp;omega) (by simp;omega),bS,bS]
     refine⟨_,rfl,by rw[List.length_set];exact q1,by rw[aN (by omega),if_pos rfl,←List.replicate_succ'],λi hi=>by rw[aN (by omega),if_neg (λe=>hi e.symm)];exact q3 i hi⟩)
   rw[e',bS]
   rw[Nat.zero_add] at q2
   refine⟨_,rfl,q1,λi hi=>?_,λi hi=>?_⟩
   ·by_cases g:i=k
    ·subst g;exact q2
    ·rw[q3 i g];exact g2 i (by omega)
   ·rw[q3 i (by omega)];exact g3 i (by omega))
 rw[Nat.zero_add] at o2
 have sq:Sq net.zw.S.P n L out:=⟨o1,λi hi=>by rw[o2 i hi];simp,λi hi j hj=>by
  have:(out.getD i []).getD j []=lists.getD i []:=by rw[o2 i hi];simp[List.getD_eq_getElem?_getD,hj]
  rw[this];exact h2 i hi⟩
 obtain⟨all,inn,views,_,es,⟨s1,_⟩,s2,s3,s4,s5,s6⟩:=AJ s sq hL hv hb hr
 rw[e1,bS,es,bS]
 simp only
 rw[s3,ci (by omega) (by omega) (by omega) (by omega),bS,Int.toNat_natCast,Nat.sub_zero]
 obtain⟨heard,e2,t1,t2,_⟩:=bm (body:=λk3 (st:(List (List (List Nat))))=>lU ((m:Nat):Int) (inn,net.ah+1,views) k3 st) (rem:=n) (k:=0) (s:=List.replicate n [])
  (λj l=>l.length=n∧(∀i,i<j→(l.getD i []).length=m∧∀k,k<m→(l.getD i []).getD k []=wd all n i k)∧True) ⟨by simp,λi hi=>by omega,trivial⟩ (λj l _ hj ⟨t1,t2,_⟩=>by
   have hjn:j<n:=by omega
   obtain⟨i1,i2⟩:=s4 j hjn
   unfold lU
   rw[ci (by omega) (by omega) (by omega) (by omega),bS,Int.toNat_natCast,ix [] (by omega),bS,bS]
   simp only
   rw[ix [] (by omega),bS,i1,Nat.sub_zero]
   obtain⟨l',e',q1,q2,q3,q4⟩:=bm (body:=λk4 (st:(List (List (List Nat))))=>lV ((m:Nat):Int) j (inn.getD j []) k4 st) (rem:=n) (k:=0) (s:=l.set j (List.replicate m []))
    (λi l'=>l'.length=n∧(l'.getD j []).length=m∧(∀k,k<m→(l'.getD j []).getD k []=wd all i j k)∧∀q,q≠j→l'.getD q []=l.getD q []) ⟨by rw[List.length_set];exact t1,by rw[aN (by omega),if_pos rfl];simp,λk hk=>by rw[aN (by omega),if_pos rfl];simp[wd,List.getD_eq_getElem?_getD,hk],λq hq=>by rw[aN (by omega),if_neg (λe=>hq e.symm)]⟩ (λi l' _ hi ⟨q1,q2,q3,q4⟩=>by
     have hin:i<n:=by omega
     unfold lV
     rw[ix [] (by omega),bS,i2 i hin]
     obtain⟨r,er,r1,r2⟩:=nS (l:=(all.getD i []).getD j []) (m:=m) (by omega)
     rw[er,bS,r1,Nat.sub_zero]
     obtain⟨l2,e2,u1,u2,u3,u4⟩:=bm (body:=λk5 (st:(List (List (List Nat))))=>lW j r k5 st) (rem:=m) (k:=0) (s:=l')
      (λk l2=>l2.length=n∧(l2.getD j []).length=m∧(∀q,q<m→(l2.getD j []).getD q []=if q<k then wd all i j q++[r.getD q 0] else wd all i j q)∧∀q,q≠j→l2.getD q []=l.getD q []) ⟨q1,q2,λq hq=>by rw[if_neg (by omega)];exact q3 q hq,q4⟩ (λk l2 _ hk ⟨u1,u2,u3,u4⟩=>by
       have hkm:k<m:=by omega
       unfold lW
       have hwl:=C8 (all:=all) (n:=i) (j:=j) (k:=k)
       rw[ix 0 (by omega),bS,ix [] (by omega),bS,ix [] (by omega),bS,u3 k hkm,if_neg (by omega),aM (by rw[hwl];simp;omega) (by rw[hwl];simp;omega),bS,bS,bS]
       refine⟨_,rfl,by rw[List.length_set];exact u1,by rw[aN (by omega),if_pos rfl,List.length_set];exact u2,λq hq=>?_,λq hq=>by rw[aN (by omega),if_neg (λe=>hq e.symm)];exact u4 q hq⟩
       rw[aN (by omega),if_pos rfl,aN (by omega)]
       by_cases g:k=q
       ·subst g;rw[if_pos rfl,if_pos (by omega)]
       ·rw[if_neg g,u3 q hq]
        by_cases g2:q<k
        ·rw[if_pos g2,if_pos (by omega)]
        ·rw[if_neg g2,if_neg (by omega)])
     rw[e2,bS]
     refine⟨_,rfl,u1,u2,λk hk=>?_,u4⟩
     rw[u3 k hk,if_pos (by omega),r2 k hk]
     unfold wd
     rw[List.range_succ,List.map_append];rfl)
   rw[e',bS]
   rw[Nat.zero_add] at q3
   refine⟨_,rfl,q1,λi hi=>?_,trivial⟩
   by_cases g:i=j
   ·subst g;exact⟨q2,q3⟩
   ·rw[q4 i g];exact t2 i (by omega))
 rw[Nat.zero_add] at t2
 rw[e2,bS]
 refine⟨all,heard,views,rfl,s1,λi hi hc j hj=>?_,t1,t2,s5,s6⟩
 rw[s2 i hi hc,o2 i hi];simp[List.getD_eq_getElem?_getD,hj]
end Pu
