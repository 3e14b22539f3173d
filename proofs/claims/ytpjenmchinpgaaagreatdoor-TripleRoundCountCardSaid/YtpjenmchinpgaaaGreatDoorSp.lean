/- Plain facts on the primes 2^q - 1 and on words of 64 bits. No Go in it. -/
set_option linter.unusedVariables false
namespace Sp
/-- The supported primes. -/
def fQ(p:Nat):Prop:=p=31∨p=127∨p=8191∨p=131071∨p=524287∨p=2147483647∨p=2305843009213693951
def qN(p:Nat):Nat:=if p=31 then 5 else if p=127 then 7 else if p=8191 then 13 else if p=131071 then 17 else if p=524287 then 19 else if p=2147483647 then 31 else 61
theorem fQ.q{p:Nat}(h:fQ p):p=2 ^ qN p-1∧5≤qN p∧qN p≤61:=by
 rcases h with rfl | rfl | rfl | rfl | rfl | rfl | rfl <;> decide
theorem fQ.lt{p:Nat}(h:fQ p):31≤p∧p≤2305843009213693951:=by
 rcases h with rfl | rfl | rfl | rfl | rfl | rfl | rfl <;> decide

theorem MJ{a b i:Nat}(h:b<2 ^ i):2 ^ i*a ||| b=2 ^ i*a+b:=(Nat.two_pow_add_eq_or_of_lt h a).symm

theorem QY{q:Nat}(hq:q≤64):18446744073709551616=2 ^ (64-q)*2 ^ q:=by
 rw[←Nat.pow_add,show 64-q+q=64 by omega]
/-- hi << (64 - q) -/
theorem M1{hi q:Nat}(hq:q≤64):hi*2 ^ (64-q) % 18446744073709551616=2 ^ (64-q)*(hi % 2 ^ q):=by
 have e:18446744073709551616=2 ^ (64-q)*2 ^ q:=by rw[←Nat.pow_add,show 64-q+q=64 by omega]
 rw[e,Nat.mul_comm hi,Nat.mul_mod_mul_left]
theorem wL{lo q:Nat}(hlo:lo<18446744073709551616)(hq:q≤64):lo / 2 ^ q<2 ^ (64-q):=by
 rw[Nat.div_lt_iff_lt_mul (Nat.two_pow_pos q),←Nat.pow_add,show 64-q+q=64 by omega];exact hlo
/-- the low word of n >> q -/
theorem Og{hi lo q:Nat}(hlo:lo<18446744073709551616)(hq:q≤64):lo / 2 ^ q ||| hi*2 ^ (64-q) % 18446744073709551616=lo / 2 ^ q+2 ^ (64-q)*(hi % 2 ^ q):=by
 rw[M1 hq,Nat.or_comm,MJ (wL hlo hq),Nat.add_comm]

/-- One round: the bits above q are added to those below. -/
theorem EC{W A B hi lo:Nat}(hB:0<B)(w:W=A*B):hi / B*W+(lo / B+A*(hi % B))+lo % B=(hi*W+lo) / B+(hi*W+lo) % B:=by
 have hs:hi*W=B*(A*hi):=by rw[w,Nat.mul_comm,Nat.mul_comm A B,Nat.mul_assoc]
 have e1:(B*(A*hi)+lo) / B=A*hi+lo / B:=Nat.mul_add_div hB ..
 have e2:(B*(A*hi)+lo) % B=lo % B:=Nat.mul_add_mod ..
 rw[hs,e1,e2]
 have h3:A*hi=hi / B*W+A*(hi % B):=by
  have t:hi=B*(hi / B)+hi % B:=(Nat.div_add_mod ..).symm
  have h64:A*(B*(hi / B))=hi / B*W:=by
   rw[←Nat.mul_assoc,←w,Nat.mul_comm]
  rw[←h64,←Nat.mul_add,←t]
 generalize hi / B*W=X at *
 generalize A*(hi % B)=Y at *
 rw[h3]
 omega
theorem Gj{hi lo q:Nat}(hq:q≤64):hi / 2 ^ q*18446744073709551616+(lo / 2 ^ q+2 ^ (64-q)*(hi % 2 ^ q))+lo % 2 ^ q=(hi*18446744073709551616+lo) / 2 ^ q+(hi*18446744073709551616+lo) % 2 ^ q :=
 EC (Nat.two_pow_pos q) (QY hq)
theorem Gi{n q:Nat}(hq:1≤q):(n / 2 ^ q+n % 2 ^ q) % (2 ^ q-1)=n % (2 ^ q-1):=by
 have h2:2≤2 ^ q:=by
  have:=Nat.pow_le_pow_right (show 0<2 by decide) hq
  simpa using this
 have e:n=(2 ^ q-1)*(n / 2 ^ q)+(n / 2 ^ q+n % 2 ^ q):=by
  have h:=(Nat.div_add_mod n (2 ^ q)).symm
  have:(2 ^ q-1)*(n / 2 ^ q)+n / 2 ^ q=2 ^ q*(n / 2 ^ q):=by
   rw[Nat.sub_mul,Nat.one_mul]
   have:n / 2 ^ q≤2 ^ q*(n / 2 ^ q):=Nat.le_mul_of_pos_left _ (by omega)
   omega
  omega
 conv=>rhs;rw[e]
 rw[Nat.mul_add_mod]
/-- products of words -/
theorem DL{a b:Nat}(ha:a<4294967296)(hb:b<4294967296):a*b≤18446744065119617025:=by
 have:=Nat.mul_le_mul (show a≤4294967295 by omega) (show b≤4294967295 by omega)
 omega
theorem N8(x y:Nat) :
  let x0:=x % 4294967296;let x1:=x / 4294967296;let y0:=y % 4294967296;let y1:=y / 4294967296
  let t:=x1*y0+x0*y0 / 4294967296
  let w1:=t % 4294967296+x0*y1
  x1*y1+t / 4294967296+w1 / 4294967296=x*y / 18446744073709551616:=by
 intro x0 x1 y0 y1 t w1
 have ex:x=4294967296*x1+x0:=(Nat.div_add_mod ..).symm
 have ey:y=4294967296*y1+y0:=(Nat.div_add_mod ..).symm
 have e:x*y=18446744073709551616*(x1*y1)+4294967296*(x1*y0)+4294967296*(x0*y1)+x0*y0:=by
  rw[ex,ey,Nat.add_mul,Nat.mul_add,Nat.mul_add]
  have a1:4294967296*x1*(4294967296*y1)=18446744073709551616*(x1*y1):=by
   rw[Nat.mul_mul_mul_comm]
  have a2:4294967296*x1*y0=4294967296*(x1*y0):=Nat.mul_assoc ..
  have a3:x0*(4294967296*y1)=4294967296*(x0*y1):=Nat.mul_left_comm ..
  rw[a1,a2,a3]
  have a4:(4294967296*x1+x0) % 4294967296=x0:=by rw[←ex]
  omega
 rw[e]
 have p00:=Nat.div_add_mod (x0*y0) 4294967296
 have l00:=Nat.mod_lt (x0*y0) (show 0<4294967296 by decide)
 have pt:=Nat.div_add_mod t 4294967296
 have lt:=Nat.mod_lt t (show 0<4294967296 by decide)
 have pw:=Nat.div_add_mod w1 4294967296
 have lw:=Nat.mod_lt w1 (show 0<4294967296 by decide)
 have et:t=x1*y0+x0*y0 / 4294967296:=rfl
 have ew:w1=t % 4294967296+x0*y1:=rfl
 generalize x1*y1=A at *
 generalize x1*y0=B at *
 generalize x0*y1=C at *
 generalize x0*y0=D at *
 omega

/- one round of the reduction -/
def fl(p h l:Nat):Nat:=l / 2 ^ qN p+2 ^ (64-qN p)*(h % 2 ^ qN p)
def fm(p l:Nat):Nat:=l % 2 ^ qN p
def fh(p h:Nat):Nat:=h / 2 ^ qN p
def nl(p h l:Nat):Nat:=(fl p h l+fm p l) % 18446744073709551616
def nc(p h l:Nat):Nat:=(fl p h l+fm p l) / 18446744073709551616
def nh(p h l:Nat):Nat:=fh p h+nc p h l
theorem Ld{p h l:Nat}(hp:fQ p)(hl:l<18446744073709551616):fl p h l<18446744073709551616:=by
 have hq:=hp.q
 have h1:l / 2 ^ qN p<2 ^ (64-qN p):=wL hl (by omega)
 have h2:h % 2 ^ qN p<2 ^ qN p:=Nat.mod_lt _ (Nat.two_pow_pos _)
 have h3:2 ^ (64-qN p)*(h % 2 ^ qN p+1)≤2 ^ (64-qN p)*2 ^ qN p:=Nat.mul_le_mul_left _ h2
 have w:=QY (q:=qN p) (by omega)
 rw[←w,Nat.mul_add,Nat.mul_one] at h3
 unfold fl;omega
theorem Lf{p l:Nat}(hl:l<18446744073709551616):fm p l<18446744073709551616:=Nat.lt_of_le_of_lt (Nat.mod_le ..) hl
theorem Lj{p h l:Nat}:nl p h l<18446744073709551616:=Nat.mod_lt _ (by decide)
theorem Lc{p h:Nat}(hp:fQ p):fh p h≤h / 32:=by
 have h1:2 ^ 5≤2 ^ qN p:=Nat.pow_le_pow_right (by decide) hp.q.2.1
 exact Nat.div_le_div_left h1 (by decide)
theorem N9{p h l:Nat}(hp:fQ p)(hh:h<18446744073709551616)(hl:l<18446744073709551616):nh p h l<18446744073709551616:=by
 have h1:=Lc (h:=h) hp
 have h2:=Ld (h:=h) hp hl
 have h3:=Lf (p:=p) hl
 have:nc p h l≤1:=by unfold nc;omega
 unfold nh;omega
theorem BB{p h l:Nat}(hp:fQ p):nh p h l*18446744073709551616+nl p h l=(h*18446744073709551616+l) / 2 ^ qN p+(h*18446744073709551616+l) % 2 ^ qN p:=by
 have hq:=hp.q
 rw[←Gj (hi:=h) (lo:=l) (q:=qN p) (by omega)]
 have h1:=Nat.div_add_mod (fl p h l+fm p l) 18446744073709551616
 unfold nh nl
 change _=fh p h*18446744073709551616+fl p h l+fm p l
 unfold nc
 omega
theorem Gg{p h l n:Nat}(hp:fQ p)(e:(h*18446744073709551616+l) % p=n % p):(nh p h l*18446744073709551616+nl p h l) % p=n % p:=by
 have hq:=hp.q
 rw[BB hp]
 have:=Gi (n:=h*18446744073709551616+l) (q:=qN p) (by omega)
 rw[←hq.1] at this
 rw[this,e]
theorem Oe{p h l:Nat}(hp:fQ p)(hl:l<18446744073709551616):l / 2 ^ qN p ||| h*2 ^ (64-qN p) % 18446744073709551616=fl p h l:=Og hl (by have:=hp.q;omega)

def add(p a b:Nat):Nat:=(a+b) % 18446744073709551616 % p
def mul(p a b:Nat):Nat:=a*b % p
def neg(p a:Nat):Nat:=if a=0 then 0 else(p+(18446744073709551616-a)) % 18446744073709551616
def Hd(p a n:Nat):Nat:=a ^ n % p
def inv(p a:Nat):Nat:=if a=0 then 0 else Hd p a (p-2)
theorem fQ.pos{p:Nat}(h:fQ p):0<p:=by have:=h.lt;omega
theorem He{p a b:Nat}(h:fQ p):Hd p a b<p:=Nat.mod_lt _ h.pos
/-- repeated squaring -/
theorem pow_odd{p o a n z:Nat}(e:o*a ^ n % p=z)(h:n % 2=1):mul p o a*mul p a a ^ (n / 2) % p=z:=by
 have:n=2*(n / 2)+1:=by omega
 rw[←e]
 conv=>rhs;rw[this]
 rw[Nat.pow_succ,Nat.pow_mul]
 unfold mul
 rw[Nat.mul_mod,Nat.mod_mod,Nat.pow_mod,Nat.mod_mod,←Nat.pow_mod,←Nat.mul_mod,Nat.pow_two,Nat.mul_assoc,Nat.mul_comm a]
theorem pow_even{p o a n z:Nat}(e:o*a ^ n % p=z)(h:n % 2=0):o*mul p a a ^ (n / 2) % p=z:=by
 have:n=2*(n / 2):=by omega
 rw[←e]
 conv=>rhs;rw[this]
 rw[Nat.pow_mul]
 unfold mul
 rw[Nat.mul_mod,Nat.pow_mod,Nat.mod_mod,←Nat.pow_mod,←Nat.mul_mod,Nat.pow_two]
def sub(p a b:Nat):Nat:=add p a (neg p b)
end Sp
namespace Sp
theorem MI{x y:Nat}(hx:x<18446744073709551616)(hy:y<18446744073709551616):x*y / 18446744073709551616<18446744073709551616:=by
 have:=Nat.mul_le_mul (show x≤18446744073709551615 by omega) (show y≤18446744073709551615 by omega)
 omega
end Sp

/- Prime numbers: Fermat's little theorem, and that the seven supported numbers are prime. Plain Lean, no program. -/
set_option linter.unusedVariables false
namespace Sp
theorem aN{β:Type}{l:List β}{i j:Nat}{v d:β}(h:i<l.length):(l.set i v).getD j d=if i=j then v else l.getD j d:=by
 rw[List.getD_eq_getElem?_getD,List.getD_eq_getElem?_getD,List.getElem?_set]
 split
 ·rename_i e;subst e;simp
 ·rfl
def Pr(p:Nat):Prop:=2≤p∧∀d,d∣p→d=1∨d=p
theorem Pr.mul{p a b:Nat}(hp:Pr p)(h:p∣a*b):p∣a∨p∣b:=by
 rcases hp.2 _ (Nat.gcd_dvd_left p a) with g | g
 ·right
  exact Nat.Coprime.dvd_of_dvd_mul_left (show Nat.Coprime p a from g) h
 ·left
  rw[←g];exact Nat.gcd_dvd_right p a
theorem BR{l1:List Nat}:∀{l2:List Nat},l1.Nodup→(∀x∈l1,x∈l2)→l1.length=l2.length→l1.Perm l2:=by
 induction l1 with
 | nil=>intro l2 _ _ hl;have:l2=[]:=List.eq_nil_of_length_eq_zero hl.symm;subst this;exact List.Perm.refl _
 | cons x t ih =>
  intro l2 hn hs hl
  have hx:x∈l2:=hs x (by simp)
  have hp:=List.perm_cons_erase hx
  have hl2:=hp.length_eq
  rw[List.nodup_cons] at hn
  have:=ih (l2:=l2.erase x) hn.2 (λy hy=>by
   have hy2:y∈l2:=hs y (by simp[hy])
   have hne:y≠x:=λe=>hn.1 (e▸hy)
   exact(List.mem_erase_of_ne hne).2 hy2) (by simp at hl hl2;omega)
  exact(List.Perm.cons x this).trans hp.symm
def xE(l:List Nat):Nat:=l.foldr (·*·) 1
theorem ET{a b:List Nat}(h:a.Perm b):xE a=xE b:=by
 induction h with
 | nil=>rfl
 | cons x _ ih=>simp only[xE,List.foldr_cons] at *;rw[ih]
 | swap x y l=>simp only[xE,List.foldr_cons];exact Nat.mul_left_comm ..
 | trans _ _ h1 h2=>exact h1.trans h2
theorem Hi{p a:Nat}(l:List Nat):xE (l.map (λx=>a*x % p)) % p=a ^ l.length*xE l % p:=by
 induction l with
 | nil=>simp[xE]
 | cons x t ih =>
  simp only[xE,List.map_cons,List.foldr_cons,List.length_cons] at *
  rw[Nat.mul_mod,ih,Nat.mod_mod,←Nat.mul_mod,Nat.pow_succ]
  congr 1
  rw[Nat.mul_assoc,Nat.mul_assoc,Nat.mul_left_comm x,Nat.mul_left_comm a]
theorem Hj{p:Nat}(hp:Pr p){l:List Nat}(h:∀x∈l,¬p∣x):¬p∣xE l:=by
 induction l with
 | nil=>intro d;have:=Nat.le_of_dvd (by decide) d;have:=hp.1;simp[xE] at *;omega
 | cons x t ih =>
  intro d
  rcases hp.mul (show p∣x*xE t from d) with g | g
  ·exact h x (by simp) g
  ·exact ih (λy hy=>h y (by simp[hy])) g
theorem AM{p x y:Nat}(h:x % p=y % p)(hxy:x≤y):p∣y-x:=by
 have:=Nat.sub_mod_eq_zero_of_mod_eq (h.symm)
 exact Nat.dvd_of_mod_eq_zero this
theorem FZ{p a:Nat}(hp:Pr p)(ha:¬p∣a):a ^ (p-1) % p=1:=by
 have h2:=hp.1
 let l:=(List.range (p-1)).map (·+1)
 have hm:∀x,x∈l↔1≤x∧x<p:=λx=>by
  simp only[l,List.mem_map,List.mem_range]
  constructor
  ·rintro⟨y,hy,rfl⟩;omega
  ·rintro⟨h1,h3⟩;exact⟨x-1,by omega,by omega⟩
 have hl:l.length=p-1:=by simp[l]
 have hnd:∀x∈l,¬p∣x:=λx hx d=>by
  have:=(hm x).1 hx
  have:=Nat.le_of_dvd (by omega) d
  omega
 have hlt:∀x,a*x % p<p:=λx=>Nat.mod_lt _ (by omega)
 have inj:∀x∈l,∀y∈l,x≤y→a*x % p=a*y % p→x=y:=λx hx y hy hxy e=>by
  have d:=AM e (Nat.mul_le_mul_left a hxy)
  rw[←Nat.mul_sub] at d
  rcases hp.mul d with g | g
  ·exact absurd g ha
  ·have hx1:=(hm x).1 hx
   have hy1:=(hm y).1 hy
   rcases Nat.eq_zero_or_pos (y-x) with z | z
   ·omega
   ·have:=Nat.le_of_dvd z g
    omega
 have hperm:(l.map (λx=>a*x % p)).Perm l:=by
  apply BR
  ·have hnl:l.Nodup:=by
    apply List.Pairwise.map (R:=λa b=>a≠b)
    ·intro a b h;omega
    ·exact List.nodup_range
   rw[List.Nodup,List.pairwise_map]
   refine List.Pairwise.imp_of_mem ?_ hnl
   intro x y hx hy hne e
   rcases Nat.le_total x y with g | g
   ·exact hne (inj x hx y hy g e)
   ·exact hne (inj y hy x hx g e.symm).symm
  ·intro z hz
   obtain⟨x,hx,rfl⟩:=List.mem_map.1 hz
   refine(hm _).2 ⟨?_,hlt x⟩
   rcases Nat.eq_zero_or_pos (a*x % p) with z | z
   ·exfalso
    rcases hp.mul (Nat.dvd_of_mod_eq_zero z) with g | g
    ·exact ha g
    ·exact hnd x hx g
   ·exact z
  ·simp
 have e:=Hi (p:=p) (a:=a) l
 rw[ET hperm,hl] at e
 have hq:=Hj hp hnd
 generalize xE l=P at e hq
 have ha0:0<a:=by
  rcases Nat.eq_zero_or_pos a with z | z
  ·exact absurd (z▸Nat.dvd_zero p) ha
  ·exact z
 have h1:0<a ^ (p-1):=Nat.pow_pos ha0
 generalize a ^ (p-1)=A at e h1
 have d:=AM e (Nat.le_mul_of_pos_left P h1)
 have d2:p∣(A-1)*P:=by rw[Nat.sub_mul,Nat.one_mul];exact d
 rcases hp.mul d2 with g | g
 ·obtain⟨k,hk⟩:=g
  have:A=1+p*k:=by omega
  rw[this,Nat.add_mul_mod_self_left]
  exact Nat.mod_eq_of_lt (by omega)
 ·exact absurd g hq
/-- the least divisor that is not 1 is prime -/
theorem least{n:Nat}(h:2≤n):∃r,Pr r∧r∣n:=by
 induction n using Nat.strongRecOn with
 | _ n ih =>
  by_cases hp:∀d,d∣n→d=1∨d=n
  ·exact⟨n,⟨h,hp⟩,Nat.dvd_refl n⟩
  ·have:∃d,d∣n∧d≠1∧d≠n:=by
    apply Classical.byContradiction
    intro g
    apply hp
    intro d hd
    by_cases h1:d=1
    ·exact Or.inl h1
    ·by_cases h2:d=n
     ·exact Or.inr h2
     ·exact absurd ⟨d,hd,h1,h2⟩ g
   obtain⟨d,hd,h1,h2⟩:=this
   have hle:=Nat.le_of_dvd (by omega) hd
   have h0:d≠0:=λz=>by subst z;have:=Nat.eq_zero_of_zero_dvd hd;omega
   obtain⟨r,hr,hrd⟩:=ih d (by omega) (by omega)
   exact⟨r,hr,Nat.dvd_trans hrd hd⟩
/-- prime, if nothing up to a bound divides -/
theorem Oo{p b:Nat}(h2:2≤p)(hb:p<b*b)(h:∀d,2≤d→d<b→¬d∣p):Pr p:=by
 refine⟨h2,λd hd=>?_⟩
 by_cases h1:d=1
 ·exact Or.inl h1
 right
 obtain⟨e,he⟩:=hd
 have hd0:d≠0:=λz=>by subst z;omega
 by_cases hdb:d<b
 ·exact absurd ⟨e,he⟩ (h d (by omega) hdb)
 ·have heb:e<b:=by
   apply Classical.byContradiction
   intro g
   have:=Nat.mul_le_mul (show b≤d by omega) (show b≤e by omega)
   omega
  by_cases he1:e=1
  ·subst he1;omega
  ·have he0:e≠0:=λz=>by subst z;omega
   exact absurd ⟨d,by rw[Nat.mul_comm];exact he⟩ (h e (by omega) heb)
/-- nothing from d on, n numbers, divides p -/
def DN(p:Nat):Nat→Nat→Bool
 | 0,_=>true
 | n+1,d=>(p % d != 0)&&DN p n (d+1)
theorem GQ{p:Nat}:∀{n d},DN p n d=true→∀e,d≤e→e<d+n→¬e∣p:=by
 intro n
 induction n with
 | zero=>intro d _ e h1 h2;omega
 | succ n ih =>
  intro d h e h1 h2 hd
  simp only[DN,Bool.and_eq_true,bne_iff_ne] at h
  by_cases g:e=d
  ·subst g;exact h.1 (Nat.mod_eq_zero_of_dvd hd)
  ·exact ih h.2 e (by omega) (by omega) hd
theorem mb{p n:Nat}(h2:2≤p)(hb:p<(n+2)*(n+2))(h:DN p n 2=true):Pr p :=
 Oo (b:=n+2) h2 hb λd h3 h4=>GQ h d h3 (by omega)
theorem ord{r b m:Nat}:∀{n},b ^ m % r=1→b ^ n % r=1→b ^ (n % m) % r=1:=by
 intro n hm hn
 have:n=m*(n / m)+n % m:=(Nat.div_add_mod n m).symm
 rw[this,Nat.pow_add,Nat.pow_mul,Nat.mul_mod,Nat.pow_mod,hm] at hn
 by_cases hr:r=0
 ·subst hr;simp at *;exact hn
 by_cases hr1:r=1
 ·subst hr1;omega
 ·rw[Nat.one_pow,Nat.mod_eq_of_lt (show 1<r by omega),Nat.one_mul,Nat.mod_mod] at hn
  exact hn
theorem Kl{r b:Nat}:∀m n,b ^ m % r=1→b ^ n % r=1→b ^ (Nat.gcd m n) % r=1:=by
 intro m n
 induction m,n using Nat.gcd.induction with
 | H0 n=>intro _ h;simpa using h
 | H1 m n hm ih=>intro h1 h2;rw[Nat.gcd_rec];exact ih (ord h1 h2) h1
/-- Pocklington: a prime divisor is 1 modulo q -/
theorem Qe{p r q b:Nat}(hr:Pr r)(hd:r∣p)(hq:Pr q)(h1:b ^ q % p=1)(h2:Nat.gcd (b-1) p=1)(hp:2≤p)(hb:0<b):q∣r-1:=by
 have hr2:=hr.1
 have e1:b ^ q % r=1:=by
  rw[←Nat.mod_mod_of_dvd _ hd,h1];exact Nat.mod_eq_of_lt (by omega)
 have hnb:¬r∣b:=λg=>by
  have:b ^ q % r=0:=Nat.mod_eq_zero_of_dvd (by
   have hq0:q≠0:=by have:=hq.1;omega
   exact Nat.dvd_trans g (Nat.dvd_of_mod_eq_zero (by
    obtain⟨k,rfl⟩:=Nat.exists_eq_succ_of_ne_zero hq0
    rw[Nat.pow_succ];exact Nat.mul_mod_left _ _)))
  omega
 have e2:=FZ hr hnb
 have e3:=Kl q (r-1) e1 e2
 rcases hq.2 _ (Nat.gcd_dvd_left q (r-1)) with g | g
 ·exfalso
  rw[g,Nat.pow_one] at e3
  have:r∣b-1:=AM (x:=1) (y:=b) (by rw[e3];exact Nat.mod_eq_of_lt (by omega)) hb
  have:=Nat.dvd_gcd this hd
  rw[h2] at this
  have:=Nat.le_of_dvd (by decide) this
  omega
 ·rw[←g];exact Nat.gcd_dvd_right _ _
/-- powers modulo p by squaring; k squarings at most -/
def pm(p:Nat):Nat→Nat→Nat→Nat→Nat
 | 0,_,_,o=>o
 | k+1,a,n,o=>if n=0 then o else pm p k (a*a % p) (n / 2) (if n % 2=1 then o*a % p else o)
theorem Lp{p:Nat}:∀ {k a n o},n < 2 ^ k→o < p→pm p k a n o=o*a ^ n % p:=by
  intro k
  induction k with
  | zero => intro a n o h ho; have : n = 0 := by simpa using h
            subst this;simp [pm,Nat.mod_eq_of_lt ho]
  | succ k ih =>
    intro a n o h ho
    simp only [pm]
    split
    · next z=>subst z;simp [Nat.mod_eq_of_lt ho]
    · have hn:n / 2 < 2 ^ k:=by rw [Nat.pow_succ] at h;omega
      have hp0:0 < p:=by omega
      by_cases h1:n % 2=1
      · rw [if_pos h1,ih hn (Nat.mod_lt _ hp0)]
        have e:a ^ n=a*(a*a) ^ (n / 2):=by
          have:n=1+2*(n / 2):=by omega
          rw [this,Nat.pow_add,Nat.pow_mul,Nat.pow_one,Nat.pow_two]
          congr 3
        rw [e,Nat.mul_mod,Nat.mod_mod,Nat.pow_mod,Nat.mod_mod,← Nat.pow_mod,← Nat.mul_mod,Nat.mul_assoc]
      · rw [if_neg h1,ih hn ho]
        have e:a ^ n=(a*a) ^ (n / 2):=by
          have:n=2*(n / 2):=by omega
          rw [this,Nat.pow_mul,Nat.pow_two]
          congr 2
        rw [e,Nat.mul_mod,Nat.pow_mod,Nat.mod_mod,← Nat.pow_mod,← Nat.mul_mod]
theorem Qf:Pr 31:=mb (n:=4) (by decide) (by decide) (by decide)
theorem Oj:Pr 127:=mb (n:=10) (by decide) (by decide) (by decide)
theorem MQ:Pr 8191:=mb (n:=89) (by decide) (by decide) (by decide +kernel)
theorem Hg:Pr 131071:=mb (n:=361) (by decide) (by decide) (by decide +kernel)
theorem Hh:Pr 524287:=mb (n:=723) (by decide) (by decide) (by decide +kernel)
theorem AD:Pr 2147483647:=mb (n:=46339) (by decide) (by decide) (by decide +kernel)
theorem Qg:Pr 61:=mb (n:=6) (by decide) (by decide) (by decide)
theorem Ol:Pr 151:=mb (n:=11) (by decide) (by decide) (by decide)
theorem Om:Pr 331:=mb (n:=17) (by decide) (by decide) (by decide)
theorem MP:Pr 1321:=mb (n:=35) (by decide) (by decide) (by decide +kernel)
def A2:Nat:=2305843009213693951
theorem AC{r q:Nat}(hr:Pr r)(hd:r∣A2)(hq:Pr q)(h1:pm A2 62 37 (A2-1) 1=1)(hm:(A2-1) / q*q=A2-1)(h2:Nat.gcd (pm A2 62 37 ((A2-1) / q) 1-1) A2=1)(h3:0<pm A2 62 37 ((A2-1) / q) 1)(h4:(A2-1) / q<2 ^ 62):q∣r-1:=by
 have e1:37 ^ (A2-1) % A2=1:=by rw[Lp (by decide) (by decide),Nat.one_mul] at h1;exact h1
 refine Qe (b:=pm A2 62 37 ((A2-1) / q) 1) hr hd hq ?_ h2 (by decide) h3
 rw[Lp h4 (by decide),Nat.one_mul,Nat.pow_mod,Nat.mod_mod,←Nat.pow_mod,←Nat.pow_mul,hm]
 exact e1
theorem K8{r:Nat}(hr:Pr r)(hd:r∣A2):4027518961<r:=by
 have a1:=AC hr hd Qg (by decide +kernel) (by decide +kernel) (by decide +kernel) (by decide +kernel) (by decide +kernel)
 have a2:=AC hr hd Ol (by decide +kernel) (by decide +kernel) (by decide +kernel) (by decide +kernel) (by decide +kernel)
 have a3:=AC hr hd Om (by decide +kernel) (by decide +kernel) (by decide +kernel) (by decide +kernel) (by decide +kernel)
 have a4:=AC hr hd MP (by decide +kernel) (by decide +kernel) (by decide +kernel) (by decide +kernel) (by decide +kernel)
 have b1:=Nat.Coprime.mul_dvd_of_dvd_of_dvd (show Nat.Coprime 61 151 by decide) a1 a2
 have b2:=Nat.Coprime.mul_dvd_of_dvd_of_dvd (show Nat.Coprime (61*151) 331 by decide) b1 a3
 have b3:=Nat.Coprime.mul_dvd_of_dvd_of_dvd (show Nat.Coprime (61*151*331) 1321 by decide) b2 a4
 have h2:=hr.1
 clear a1 a2 a3 a4 b1 b2 hd hr
 have h3:0<r-1:=by omega
 have h4:=Nat.le_of_dvd h3 b3
 clear b3
 omega
theorem On:Pr A2:=by
 refine⟨by decide,λd hd=>?_⟩
 by_cases h1:d=1
 ·exact Or.inl h1
 right
 obtain⟨e,he⟩:=hd
 have hM:A2=2305843009213693951:=rfl
 have hd0:d≠0:=λz=>by subst z;omega
 have he0:e≠0:=λz=>by subst z;omega
 by_cases he1:e=1
 ·subst he1;omega
 obtain⟨r,hr,hrd⟩:=least (n:=d) (by omega)
 obtain⟨t,ht,htd⟩:=least (n:=e) (by omega)
 have g1:=K8 hr (Nat.dvd_trans hrd ⟨e,he⟩)
 have g2:=K8 ht (Nat.dvd_trans htd ⟨d,by rw[Nat.mul_comm];exact he⟩)
 have g3:=Nat.le_of_dvd (by omega) hrd
 have g4:=Nat.le_of_dvd (by omega) htd
 have:=Nat.mul_le_mul (show 4027518961≤d by omega) (show 4027518961≤e by omega)
 omega
theorem fQ.pr{p:Nat}(h:fQ p):Pr p:=by
 rcases h with rfl | rfl | rfl | rfl | rfl | rfl | rfl
 ·exact Qf
 ·exact Oj
 ·exact MQ
 ·exact Hg
 ·exact Hh
 ·exact AD
 ·exact On
theorem fQ.inv{p a:Nat}(h:fQ p)(ha:a % p≠0):a*Hd p a (p-2) % p=1:=by
 have h1:=h.lt
 have:=FZ h.pr (λd=>ha (Nat.mod_eq_zero_of_dvd d))
 unfold Hd
 rw[Nat.mul_mod,Nat.mod_mod,←Nat.mul_mod,←Nat.pow_succ']
 rw[show(p-2).succ=p-1 by omega];exact this
theorem fQ.mul0{p a b:Nat}(h:fQ p)(e:a*b % p=0):a % p=0∨b % p=0:=by
 rcases h.pr.mul (Nat.dvd_of_mod_eq_zero e) with g | g
 ·exact Or.inl (Nat.mod_eq_zero_of_dvd g)
 ·exact Or.inr (Nat.mod_eq_zero_of_dvd g)
end Sp

/- Polynomials as lists over a commutative ring without zero divisors: evaluation, product, root counting. Plain Lean, no program. -/
set_option linter.unusedVariables false
namespace Sp
open Lean.Grind
section
variable {R:Type}[CommRing R]
def bZ:List R→R→R
 | [],_=>0
 | a::t,x=>a+x*bZ t x
/-- the quotient by x - c, of the tail -/
def sd(c:R):List R→List R
 | []=>[]
 | a::t=>bZ (a::t) c::sd c t
theorem MZ(c:R)(f:List R):(sd c f).length=f.length:=by
 induction f with
 | nil=>rfl
 | cons a t ih=>simp[sd,ih]
theorem OC(c x a:R)(t:List R):bZ (a::t) x-bZ (a::t) c=(x-c)*bZ (sd c t) x:=by
 induction t generalizing a with
 | nil=>simp only[bZ,sd];grind
 | cons b t ih =>
  have:=ih b
  simp only[bZ,sd] at *
  grind
theorem KG(c:R)(f:List R)(h:∀y∈sd c f,y=0):bZ f c=0∧∀y∈f,y=0:=by
 induction f with
 | nil=>exact⟨rfl,by simp⟩
 | cons a t ih =>
  simp only[sd,List.mem_cons,forall_eq_or_imp] at h
  obtain⟨i1,i2⟩:=ih h.2
  refine⟨h.1,?_⟩
  have:a=0:=by
   have:=h.1
   simp only[bZ] at this
   rw[i1] at this
   grind
  simp only[List.mem_cons,forall_eq_or_imp]
  exact⟨this,i2⟩
/-- as many roots as coefficients: zero -/
theorem roots(nz:∀a b:R,a*b=0→a=0∨b=0):∀(f xs:List R),xs.Nodup→f.length≤xs.length→(∀x∈xs,bZ f x=0)→∀y∈f,y=0:=by
 intro f xs
 induction xs generalizing f with
 | nil=>intro _ h _;have:f=[]:=List.eq_nil_of_length_eq_zero (by simpa using h);subst this;simp
 | cons c xs ih =>
  intro hn hl h
  cases f with
  | nil=>simp
  | cons a t =>
   rw[List.nodup_cons] at hn
   have hc:bZ (a::t) c=0:=h c (by simp)
   have:=ih (sd c t) hn.2 (by rw[MZ];simpa using hl) (λx hx=>by
    have e:=OC c x a t
    rw[h x (by simp[hx]),hc] at e
    have e2:(x-c)*bZ (sd c t) x=0:=by grind
    rcases nz _ _ e2 with g | g
    ·exfalso;apply hn.1
     have:x=c:=by grind
     exact this▸hx
    ·exact g)
   obtain⟨i1,i2⟩:=KG c t this
   have ha:a=0:=by
    simp only[bZ] at hc
    rw[i1] at hc
    grind
   simp only[List.mem_cons,forall_eq_or_imp]
   exact⟨ha,i2⟩
def cf(f:List R)(i:Nat):R:=f.getD i 0
def ot:List R→List R→List R
 | [],g=>g
 | f,[]=>f
 | a::f,b::g=>(a+b)::ot f g
def wV(k:R)(f:List R):List R:=f.map (k*·)
def wP(f g:List R):List R:=ot f (wV (-1) g)
def nf:List R→List R→List R
 | [],_=>[]
 | a::f,g=>ot (wV a g) (0::nf f g)
theorem ta(f g:List R)(x:R):bZ (ot f g) x=bZ f x+bZ g x:=by
 induction f,g using ot.induct with
 | case1 g=>simp only[ot,bZ];grind
 | case2 f h=>cases f with
  | nil=>simp only[ot,bZ];grind
  | cons a f=>simp only[ot,bZ];grind
 | case3 a f b g ih=>simp only[ot,bZ,ih];grind
theorem rf(k:R)(f:List R)(x:R):bZ (wV k f) x=k*bZ f x:=by
 unfold wV
 induction f with
 | nil=>simp only[List.map,bZ];grind
 | cons a f ih=>simp only[List.map,bZ,ih];grind
theorem pU(f g:List R)(x:R):bZ (wP f g) x=bZ f x-bZ g x:=by
 unfold wP;rw[ta,rf];grind
theorem pT(f g:List R)(x:R):bZ (nf f g) x=bZ f x*bZ g x:=by
 induction f with
 | nil=>simp only[nf,bZ];grind
 | cons a f ih=>simp only[nf,ta,rf,bZ,ih];grind
theorem tu(f g:List R):(ot f g).length=max f.length g.length:=by
 induction f,g using ot.induct with
 | case1 g=>simp[ot]
 | case2 f h=>cases f <;> simp[ot]
 | case3 a f b g ih=>simp[ot,ih]
theorem tG(k:R)(f:List R):(wV k f).length=f.length:=by simp[wV]
theorem vR(f g:List R):(wP f g).length=max f.length g.length:=by rw[wP,tu,tG]
theorem BU(f g:List R):(nf f g).length≤f.length+g.length:=by
 induction f with
 | nil=>simp[nf]
 | cons a f ih=>simp only[nf,tu,tG,List.length_cons];omega
theorem rk(f g:List R)(h:1≤g.length):(nf f g).length≤f.length+g.length-1:=by
 induction f with
 | nil=>simp[nf]
 | cons a f ih=>simp only[nf,tu,tG,List.length_cons];omega
theorem sX(i:Nat):cf ([]:List R) i=0:=by simp[cf]
theorem qn(a:R)(f:List R):cf (a::f) 0=a:=by simp[cf]
theorem lv(a:R)(f:List R)(i:Nat):cf (a::f) (i+1)=cf f i:=by simp[cf]
theorem rN(f g:List R)(i:Nat):cf (ot f g) i=cf f i+cf g i:=by
 induction f,g using ot.induct generalizing i with
 | case1 g=>simp only[ot,sX];grind
 | case2 f h=>cases f with
  | nil=>simp only[ot,sX];grind
  | cons a f=>simp only[ot,sX];grind
 | case3 a f b g ih=>cases i with
  | zero=>simp only[ot,qn]
  | succ i=>simp only[ot,lv,ih]
theorem qm(k:R)(f:List R)(i:Nat):cf (wV k f) i=k*cf f i:=by
 unfold wV
 induction f generalizing i with
 | nil=>simp only[List.map,sX];grind
 | cons a f ih=>cases i with
  | zero=>simp only[List.map,qn]
  | succ i=>simp only[List.map,lv,ih]
theorem vF(f g:List R)(i:Nat):cf (wP f g) i=cf f i-cf g i:=by
 unfold wP;rw[rN,qm];grind
theorem xe{f:List R}{i:Nat}(h:f.length≤i):cf f i=0:=by simp[cf,h]
theorem LH{f:List R}(h:∀y∈f,y=0)(i:Nat):cf f i=0:=by
 by_cases g:i<f.length
 ·unfold cf;rw[List.getD_eq_getElem?_getD,List.getElem?_eq_getElem g];exact h _ (List.getElem_mem g)
 ·exact xe (by omega)
/-- the coefficients above, and the top one, of a product -/
theorem Bg(f g:List R)(a b:Nat)(hf:∀i,a<i→cf f i=0)(hg:∀j,b<j→cf g j=0):cf (nf f g) (a+b)=cf f a*cf g b∧∀k,a+b<k→cf (nf f g) k=0:=by
 induction f generalizing a with
 | nil=>simp only[nf,sX];exact⟨by grind,λ_ _=>trivial⟩
 | cons c f ih =>
  cases a with
  | zero =>
   have hf0:∀y∈f,y=0:=by
    intro y hy
    obtain⟨i,hi,rfl⟩:=List.getElem_of_mem hy
    have:=hf (i+1) (by omega)
    rw[lv] at this
    unfold cf at this
    rwa [List.getD_eq_getElem?_getD,List.getElem?_eq_getElem hi] at this
   have hz:∀k,cf (nf f g) k=0:=by
    clear ih hf
    induction f with
    | nil=>intro k;simp only[nf,sX]
    | cons d f ih2 =>
     intro k
     simp only[List.mem_cons,forall_eq_or_imp] at hf0
     simp only[nf,rN,qm,hf0.1]
     cases k with
     | zero=>rw[qn];grind
     | succ k=>rw[lv,ih2 hf0.2];grind
   refine⟨?_,λk hk=>?_⟩
   ·simp only[nf,rN,qm,qn,Nat.zero_add]
    cases b with
    | zero=>rw[qn];grind
    | succ b=>rw[lv,hz];grind
   ·simp only[nf,rN,qm]
    rw[hg k (by omega)]
    cases k with
    | zero=>omega
    | succ k=>rw[lv,hz];grind
  | succ a =>
   obtain⟨i1,i2⟩:=ih a (λi hi=>by have:=hf (i+1) (by omega);rwa [lv] at this)
   refine⟨?_,λk hk=>?_⟩
   ·simp only[nf,rN,qm,lv]
    rw[hg (a+1+b) (by omega),show a+1+b=(a+b)+1 by omega,lv,i1];grind
   ·simp only[nf,rN,qm]
    rw[hg k (by omega)]
    cases k with
    | zero=>omega
    | succ k=>rw[lv,i2 k (by omega)];grind
/-- equal at enough places: equal coefficients -/
theorem pz(nz:∀a b:R,a*b=0→a=0∨b=0){f g xs:List R}(hn:xs.Nodup)(hf:f.length≤xs.length)(hg:g.length≤xs.length)(h:∀x∈xs,bZ f x=bZ g x)(i:Nat):cf f i=cf g i:=by
 have:=roots nz (wP f g) xs hn (by rw[vR];omega) (λx hx=>by rw[pU,h x hx];grind)
 have:=LH this i
 rw[vF] at this
 grind
theorem M7{f:List R}(h:∃i,cf f i≠0):∃b,cf f b≠0∧∀j,b<j→cf f j=0:=by
 obtain⟨i,hi⟩:=h
 have key:∀n,(∀j,n≤j→cf f j=0)→i<n→∃b,cf f b≠0∧∀j,b<j→cf f j=0:=by
  intro n
  induction n with
  | zero=>intro _ h;omega
  | succ n ih =>
   intro hz hin
   by_cases g:cf f n=0
   ·have:i≠n:=λe=>hi (e▸g)
    exact ih (λj hj=>by by_cases e:j=n;exact e▸g;exact hz j (by omega)) (by omega)
   ·exact⟨n,g,λj hj=>hz j (by omega)⟩
 have hlt:i<f.length:=by
  apply Classical.byContradiction
  intro g
  exact hi (xe (by omega))
 exact key f.length (λj hj=>xe hj) hlt
/-- division is unique: e times d with e monic of degree w has no fewer coefficients than w, unless d is zero -/
theorem FT{e d rest:List R}{w:Nat}(h1:cf e w=1)(he:∀i,w<i→cf e i=0)(hr:rest.length≤w)(h:∀i,cf (nf e d) i=cf rest i):∀i,cf d i=0:=by
 intro i
 apply Classical.byContradiction
 intro g
 obtain⟨b,hb,hz⟩:=M7 ⟨i,g⟩
 have:=(Bg e d w b he hz).1
 rw[h,xe (by omega),h1] at this
 apply hb
 grind
theorem rO{f:List R}(h:∀i,cf f i=0)(x:R):bZ f x=0:=by
 induction f with
 | nil=>rfl
 | cons a f ih =>
  have h0:=h 0
  rw[qn] at h0
  simp only[bZ,h0,ih (λi=>by have:=h (i+1);rwa [lv] at this)];grind
theorem ly{f g:List R}(h:∀i,cf f i=cf g i)(x:R):bZ f x=bZ g x:=by
 have:=rO (f:=wP f g) (λi=>by rw[vF,h i];grind) x
 rw[pU] at this
 grind
theorem vc(f g:List R)(x:R):bZ (f++g) x=bZ f x+x ^ f.length*bZ g x:=by
 induction f with
 | nil=>simp only[List.nil_append,bZ,List.length_nil];grind
 | cons a f ih=>simp only[List.cons_append,bZ,ih,List.length_cons];grind
/-- Berlekamp and Welch: what any solution says -/
theorem bw(nz:∀a b:R,a*b=0→a=0∨b=0){q e f rest f0 good all:List R}{deg w:Nat}
  (hgood:good.Nodup) (hall:all.Nodup) (hq:q.length≤deg+w+1) (h0:f0.length≤deg+1)
  (h1:cf e w=1) (he:e.length=w+1) (hr:rest.length≤w)
  (hng:deg+w+1≤good.length) (hna:deg+w+1≤all.length) (hf:f.length+w≤all.length) (hna2:deg+w+2≤all.length)
  (hk:∀x∈good,bZ q x=bZ f0 x*bZ e x) (hd:∀x,bZ q x=bZ e x*bZ f x+bZ rest x) :
  (∀i,cf f i=cf f0 i)∧∀i,cf rest i=0:=by
 have e1:∀i,cf q i=cf (nf f0 e) i:=pz nz hgood (by omega) (by have:=rk f0 e (by omega);omega) (λx hx=>by rw[pT];exact hk x hx)
 have e2:∀x,bZ q x=bZ f0 x*bZ e x:=λx=>by rw[ly e1 x,pT]
 have e3:∀i,cf (nf e (wP f0 f)) i=cf rest i:=pz nz hall (by
   have:=rk e (wP f0 f)
   rw[vR] at this
   have h2:=BU e (wP f0 f)
   rw[vR] at h2
   by_cases z:1≤max f0.length f.length
   ·have:=this z;omega
   ·omega) (by omega) (λx _=>by
   have a1:=hd x
   have a2:=e2 x
   rw[pT,pU]
   grind)
 have e4:=FT h1 (λi hi=>xe (by omega)) hr e3
 refine⟨λi=>by have:=e4 i;rw[vF] at this;grind,λi=>?_⟩
 have e5:∀x,bZ rest x=0:=λx=>by
  have a1:=hd x
  have a2:=e2 x
  have a3:bZ f0 x-bZ f x=0:=by rw[←pU];exact rO e4 x
  grind
 have:=pz nz hall (f:=rest) (g:=[]) (by omega) (by simp) (λx _=>by rw[e5];rfl) i
 rw[this,sX]
end
end Sp

/- Elimination of Gauss and Jordan over a commutative ring: what it keeps. Plain Lean, no program. -/
set_option linter.unusedVariables false
namespace Sp
open Lean.Grind
section
variable {R:Type}[CommRing R]
def sm:Nat→(Nat→R)→R
 | 0,_=>0
 | n+1,f=>sm n f+f n
theorem bY{n:Nat}{f g:Nat→R}(h:∀j,j<n→f j=g j):sm n f=sm n g:=by
 induction n with
 | zero=>rfl
 | succ n ih=>simp only[sm];rw[ih (λj hj=>h j (by omega)),h n (by omega)]
theorem sg{n:Nat}{f:Nat→R}(h:∀j,j<n→f j=0):sm n f=0:=by
 induction n with
 | zero=>rfl
 | succ n ih=>simp only[sm];rw[ih (λj hj=>h j (by omega)),h n (by omega)];grind
theorem HF{n:Nat}(f g:Nat→R):sm n (λj=>f j+g j)=sm n f+sm n g:=by
 induction n with
 | zero=>simp only[sm];grind
 | succ n ih=>simp only[sm,ih];grind
theorem nW{n:Nat}(k:R)(f:Nat→R):sm n (λj=>k*f j)=k*sm n f:=by
 induction n with
 | zero=>simp only[sm];grind
 | succ n ih=>simp only[sm,ih];grind
/-- one place more -/
theorem C2{n c:Nat}(hc:c<n)(f g:Nat→R)(x:R)(hx:g c=x+f c)(h:∀j,j<n→j≠c→g j=f j):sm n g=sm n f+x:=by
 induction n with
 | zero=>omega
 | succ n ih =>
  simp only[sm]
  by_cases e:c=n
  ·subst e
   rw[bY (f:=g) (g:=f) (λj hj=>h j (by omega) (by omega)),hx];grind
  ·rw[ih (by omega) (λj hj hne=>h j (by omega) hne),h n (by omega) (λz=>e z.symm)];grind
def dot(n:Nat)(row v:Nat→R):R:=sm n (λj=>row j*v j)
theorem IB{n:Nat}(a b v:Nat→R)(k:R):dot n (λj=>a j+k*b j) v=dot n a v+k*dot n b v:=by
 unfold dot
 rw[←nW,←HF]
 exact bY λj _=>by grind
theorem Eu{n:Nat}(a v:Nat→R)(k:R):dot n (λj=>k*a j) v=k*dot n a v:=by
 unfold dot
 rw[←nW]
 exact bY λj _=>by grind
theorem px{n:Nat}{a b v:Nat→R}(h:∀j,j<n→a j=b j):dot n a v=dot n b v:=bY λj hj=>by rw[h j hj]
def K6(h n:Nat)(M:Nat→Nat→R)(v:Nat→R):Prop:=∀i,i<h→dot n (M i) v=M i n
structure wk(h n:Nat)(M0 M:Nat→Nat→R)(k:Nat)(piv:Nat→Nat)(c:Nat):Prop where
 sol:∀v,K6 h n M0 v↔K6 h n M v
 len:k≤h
 lt:∀r,r<k→piv r<c
 cn:c≤n
 unit:∀r,r<k→∀i,i<h→M i (piv r)=if i=r then 1 else 0
 low:∀i,k≤i→i<h→∀j,j<c→M i j=0
variable {h n k c:Nat}{M0 M M':Nat→Nat→R}{piv:Nat→Nat}
theorem wk.start:wk h n M0 M0 0 piv 0:=⟨λ_=>Iff.rfl,by omega,by omega,by omega,by omega,by omega⟩
theorem wk.congr(e:∀i,i<h→∀j,j≤n→M' i j=M i j)(r:wk h n M0 M k piv c):wk h n M0 M' k piv c:=by
 refine⟨λv=>(r.sol v).trans ?_,r.len,r.lt,r.cn,λs hs i hi=>?_,λi h1 h2 j hj=>?_⟩
 ·constructor <;> intro g i hi
  ·rw[px (b:=M i) (λj hj=>e i hi j (by omega)),e i hi n (by omega)];exact g i hi
  ·rw[←e i hi n (by omega),←px (a:=M' i) (λj hj=>e i hi j (by omega))];exact g i hi
 ·rw[e i hi _ (by have:=r.lt s hs;have:=r.cn;omega)];exact r.unit s hs i hi
 ·rw[e i h2 _ (by have:=r.cn;omega)];exact r.low i h1 h2 j hj
theorem wk.skip(r:wk h n M0 M k piv c)(hc:c<n)(z:∀i,k≤i→i<h→M i c=0):wk h n M0 M k piv (c+1) :=
 ⟨r.sol,r.len,λs hs=>Nat.lt_succ_of_lt (r.lt s hs),hc,r.unit,λi h1 h2 j hj=>by
  by_cases e:j=c
  ·subst e;exact z i h1 h2
  ·exact r.low i h1 h2 j (by omega)⟩
theorem wk.pivot(r:wk h n M0 M k piv c)(hc:c<n)(one:(1:R)≠0){at_:Nat}(a1:k≤at_)(a2:at_<h){u:R}(hu:u*M at_ c=1)(hp:piv k=c)
  (hr:∀j,j≤n→M' k j=u*M at_ j)
  (ho:∀i,i<h→i≠k→∀j,j≤n→M' i j=(if i=at_ then M k j else M i j)-(if i=at_ then M k c else M i c)*M' k j):wk h n M0 M' (k+1) piv (c+1):=by
 have kh:k<h:=by omega
 let S:Nat→Nat→R:=λi=>if i=at_ then M k else if i=k then M at_ else M i
 have hS:∀i,i<h→i≠k→∀j,j≤n→M' i j=S i j-S i c*M' k j:=λi h1 h2 j h3=>by
  rw[ho i h1 h2 j h3]
  by_cases e:i=at_
  ·simp[S,e]
  ·simp[S,e,h2]
 have hSk:∀j,j≤n→M' k j=u*S k j:=λj h3=>by
  rw[hr j h3]
  by_cases e:k=at_
  ·simp[S,e]
  ·simp[S,e]
 have hSc:u*S k c=1:=by
  by_cases e:k=at_
  ·subst e;simpa[S] using hu
  ·simpa[S,e] using hu
 have solS:∀v,K6 h n M v↔K6 h n S v:=λv=>by
  constructor <;> intro g i hi
  ·by_cases e:i=at_
   ·have:=g k kh;simpa[S,e] using this
   ·by_cases e2:i=k
    ·have:=g at_ a2
     subst e2;simpa[S,e] using this
    ·have:=g i hi;simpa[S,e,e2] using this
  ·by_cases e:i=at_
   ·subst e
    by_cases e2:k=i
    ·subst e2;have:=g k kh;simpa[S] using this
    ·have:=g k kh;simpa[S,e2] using this
   ·by_cases e2:i=k
    ·subst e2;have:=g at_ a2;simpa[S] using this
    ·have:=g i hi;simpa[S,e,e2] using this
 have lowS:∀i,k≤i→i<h→∀j,j<c→S i j=0:=λi h1 h2 j hj=>by
  by_cases e:i=at_
  ·simp only[S,if_pos e];exact r.low k (Nat.le_refl k) kh j hj
  ·by_cases e2:i=k
   ·simp only[S,if_neg e,if_pos e2];exact r.low at_ a1 a2 j hj
   ·simp only[S,if_neg e,if_neg e2];exact r.low i h1 h2 j hj
 have unitS:∀s,s<k→∀i,i<h→S i (piv s)=if i=s then 1 else 0:=λs hs i hi=>by
  by_cases e:i=at_
  ·simp only[S,if_pos e];rw[r.unit s hs k kh,if_neg (by omega),if_neg (by omega)]
  ·by_cases e2:i=k
   ·simp only[S,if_neg e,if_pos e2];rw[r.unit s hs at_ a2,if_neg (by omega),if_neg (by omega)]
   ·simp only[S,if_neg e,if_neg e2];exact r.unit s hs i hi
 have dk:∀v,dot n (M' k) v=u*dot n (S k) v:=λv=>by
  rw[px (b:=λj=>u*S k j) (λj hj=>hSk j (by omega)),Eu]
 have di:∀v i,i<h→i≠k→dot n (M' i) v=dot n (S i) v-S i c*dot n (M' k) v:=λv i h1 h2=>by
  rw[px (b:=λj=>S i j+(-(S i c))*M' k j) (λj hj=>by rw[hS i h1 h2 j (by omega)];grind),IB];grind
 refine⟨λv=>((r.sol v).trans (solS v)).trans ?_,by omega,?_,by omega,?_,?_⟩
 ·constructor
  ·intro g i hi
   have g0:=g k kh
   by_cases e:i=k
   ·subst e;rw[dk,hSk n (by omega),g0]
   ·rw[di v i hi e,hS i hi e n (by omega),dk,g0,g i hi,hSk n (by omega)]
  ·intro g
   have g0:=g k kh
   rw[dk,hSk n (by omega)] at g0
   have g1:dot n (S k) v=S k n:=by grind
   intro i hi
   by_cases e:i=k
   ·subst e;exact g1
   ·have g2:=g i hi
    rw[di v i hi e,hS i hi e n (by omega),g k kh] at g2
    grind
 ·intro s hs
  by_cases e:s=k
  ·subst e;omega
  ·have:=r.lt s (by omega);omega
 ·intro s hs i hi
  by_cases e:s=k
  ·subst e
   rw[hp]
   by_cases e2:i=s
   ·subst e2;rw[if_pos rfl,hSk c (by omega)];exact hSc
   ·rw[if_neg e2,hS i hi e2 c (by omega),hSk c (by omega),hSc];grind
  ·have hs2:s<k:=by omega
   have hl:=r.lt s hs2
   have hz:M' k (piv s)=0:=by
    rw[hSk _ (by omega),unitS s hs2 k kh,if_neg (by omega)];grind
   by_cases e2:i=k
   ·subst e2;rw[if_neg (by omega)];exact hz
   ·rw[hS i hi e2 _ (by omega),hz,unitS s hs2 i hi]
    split <;> grind
 ·intro i h1 h2 j hj
  have e:i≠k:=by omega
  by_cases e3:j=c
  ·subst e3
   rw[hS i h2 e j (by omega),hSk j (by omega),hSc];grind
  ·rw[hS i h2 e j (by omega),hSk j (by omega),lowS i (by omega) h2 j (by omega),lowS k (by omega) kh j (by omega)];grind
/-- the solution that is read off: after s pivots -/
def Read(n:Nat)(M:Nat→Nat→R)(piv:Nat→Nat)(s:Nat)(out:Nat→R):Prop :=
 (∀j,j<n→(∀r,r<s→piv r≠j)→out j=0)∧∀r,r<s→out (piv r)=M r n
theorem wk.distinct(r:wk h n M0 M k piv c)(one:(1:R)≠0){a b:Nat}(ha:a<k)(hb:b<k)(e:piv a=piv b):a=b:=by
 apply Classical.byContradiction
 intro g
 have h1:=r.unit a ha a (by have:=r.len;omega)
 have h2:=r.unit b hb a (by have:=r.len;omega)
 rw[if_pos rfl] at h1
 rw[if_neg g,←e,h1] at h2
 exact one h2
theorem wk.read_sum(r:wk h n M0 M k piv c)(one:(1:R)≠0)(i:Nat)(hi:i<h):∀(s:Nat) (out:Nat→R),s≤k→Read n M piv s out→dot n (M i) out=if i<s then M i n else 0:=by
 intro s
 induction s with
 | zero =>
  intro out _ hr
  rw[if_neg (by omega)]
  exact sg λj hj=>by rw[hr.1 j hj (by omega)];grind
 | succ s ih =>
  intro out hs hr
  have hps:piv s<n:=by have:=r.lt s (by omega);have:=r.cn;omega
  let o2:Nat→R:=λj=>if j=piv s then 0 else out j
  have hr2:Read n M piv s o2:=by
   refine⟨λj hj hn=>?_,λt ht=>?_⟩
   ·by_cases e:j=piv s
    ·simp[o2,e]
    ·simp only[o2,if_neg e]
     refine hr.1 j hj λt ht=>?_
     by_cases e2:t=s
     ·subst e2;exact λz=>e z.symm
     ·exact hn t (by omega)
   ·have:piv t≠piv s:=λz=>by have:=r.distinct one (by omega) (by omega) z;omega
    simp only[o2,if_neg this]
    exact hr.2 t (by omega)
  have:=ih o2 (by omega) hr2
  unfold dot at this ⊢
  rw[C2 hps (λj=>M i j*o2 j) (λj=>M i j*out j) (M i (piv s)*M s n) (by simp only[o2,if_pos];rw[hr.2 s (by omega)];grind) (λj hj hne=>by simp only[o2,if_neg hne]),this,r.unit s (by omega) i hi]
  by_cases e:i=s
  ·subst e;rw[if_neg (by omega),if_pos rfl,if_pos (by omega)];grind
  ·rw[if_neg e]
   by_cases e2:i<s
   ·rw[if_pos e2,if_pos (by omega)];grind
   ·rw[if_neg e2,if_neg (by omega)];grind
/-- the end: solved -/
theorem wk.solved(r:wk h n M0 M k piv n)(one:(1:R)≠0){out:Nat→R}(hr:Read n M piv k out)(z:∀i,k≤i→i<h→M i n=0):K6 h n M0 out:=by
 rw[r.sol]
 intro i hi
 rw[r.read_sum one i hi k out (Nat.le_refl k) hr]
 split
 ·rfl
 ·next g=>exact(z i (by omega) hi).symm
/-- the end: where there is a solution nothing is left over -/
theorem wk.rest(r:wk h n M0 M k piv n){v:Nat→R}(hv:K6 h n M0 v){i:Nat}(h1:k≤i)(h2:i<h):M i n=0:=by
 have:=(r.sol v).1 hv i h2
 rw[←this]
 exact sg λj hj=>by rw[r.low i h1 h2 j hj];grind
end
end Sp

/- The field of a supported prime: numbers below p as a commutative ring without zero divisors. Plain Lean, no program. -/
set_option linter.unusedVariables false
namespace Sp
open Lean.Grind
/-- a number modulo p -/
def o(p:Nat)[NeZero p](n:Nat):Fin p:=Fin.ofNat p n
section
variable {p:Nat}[NeZero p]
theorem Kk{a b:Nat}:o p a=o p b↔a % p=b % p:=by
 constructor
 ·intro h;exact congrArg Fin.val h
 ·intro h;exact Fin.ext h
theorem lc{a:Nat}:o p (a % p)=o p a:=Kk.2 (Nat.mod_mod a p)
theorem uS(a:Fin p):o p a.val=a:=Fin.ext (Nat.mod_eq_of_lt a.isLt)
theorem pZ{a b:Nat}(ha:a<p)(hb:b<p)(h:o p a=o p b):a=b:=by
 rw[Kk,Nat.mod_eq_of_lt ha,Nat.mod_eq_of_lt hb] at h;exact h
theorem ze{a b:Nat}:o p (a+b)=o p a+o p b:=by
 apply Fin.ext;simp[o,Fin.add_def]
theorem nC{a b:Nat}:o p (a*b)=o p a*o p b:=by
 apply Fin.ext;simp[o,Fin.mul_def,Nat.mul_mod]
theorem lf:o p 0=0:=by apply Fin.ext;simp[o]
theorem GX:o p p=0:=by apply Fin.ext;simp[o]
theorem uR:o p 1=1:=rfl
theorem xk{a:Nat}:o p a=0↔a % p=0:=by rw[←lf,Kk,Nat.zero_mod]
theorem Lk{a b:Nat}(h:b≤a):o p (a-b)=o p a-o p b:=by
 have:o p (a-b)+o p b=o p a:=by rw[←ze];congr 1;omega
 grind
end
theorem fQ.ne{p:Nat}(h:fQ p):NeZero p:=⟨by have:=h.lt;omega⟩
theorem fQ.nz{p:Nat}[NeZero p](h:fQ p)(a b:Fin p)(e:a*b=0):a=0∨b=0:=by
 rw[←uS a,←uS b,←nC,xk] at e
 rw[←uS a,←uS b,xk,xk]
 exact h.mul0 e
theorem fQ.one{p:Nat}[NeZero p](h:fQ p):(1:Fin p)≠0:=by
 rw[←uR,←lf]
 intro e
 have:=h.lt
 have:=pZ (by omega) (by omega) e
 omega
theorem fQ.oinv{p a:Nat}[NeZero p](h:fQ p)(ha:a % p≠0):o p (Hd p a (p-2))*o p a=1:=by
 rw[←nC,←uR,Kk,Nat.mul_comm,h.inv ha,Nat.mod_eq_of_lt]
 have:=h.lt;omega
end Sp

/- The equations of Berlekamp and Welch: what a solution says, and that there is one. Plain Lean, no program. -/
set_option linter.unusedVariables false
namespace Sp
open Lean.Grind
section
variable {R:Type}[CommRing R]
theorem B6{n:Nat}(f:Nat→R):sm (n+1) f=f 0+sm n (λj=>f (j+1)):=by
 induction n with
 | zero=>simp only[sm];grind
 | succ n ih=>rw[sm,ih,sm];grind
theorem M2{m n:Nat}(f:Nat→R):sm (m+n) f=sm m f+sm n (λj=>f (m+j)):=by
 induction n with
 | zero=>simp only[Nat.add_zero,sm];grind
 | succ n ih=>rw[←Nat.add_assoc,sm,ih,sm];grind
theorem yi{n:Nat}{f:List R}(x:R)(h:f.length≤n):bZ f x=sm n (λj=>cf f j*x ^ j):=by
 induction f generalizing n with
 | nil=>rw[sg (λj _=>by rw[sX];grind)];rfl
 | cons a f ih =>
  cases n with
  | zero=>simp at h
  | succ n =>
   rw[B6,bZ,ih (n:=n) (by simpa using h),←nW,qn]
   rw[bY (f:=λj=>x*(cf f j*x ^ j)) (g:=λj=>cf (a::f) (j+1)*x ^ (j+1)) (λj _=>by rw[lv];grind)]
   grind
/-- a row of the equations -/
def mH(deg w:Nat)(x y:R)(j:Nat):R :=
 if j<deg+w+1 then x ^ j else if j<deg+w+1+w then -(y*x ^ (j-(deg+w+1))) else y*x ^ w
theorem FG{deg w:Nat}{x y:R}{v:Nat→R}{q e:List R}(hq:q.length=deg+w+1)(he:e.length=w+1)(h1:cf e w=1)(hqv:∀j,j<deg+w+1→v j=cf q j)(hev:∀k,k<w→v (deg+w+1+k)=cf e k) :
  dot (deg+w+1+w) (mH deg w x y) v=mH deg w x y (deg+w+1+w)↔bZ q x=y*bZ e x:=by
 have a1:dot (deg+w+1+w) (mH deg w x y) v=bZ q x-y*sm w (λk=>cf e k*x ^ k):=by
  unfold dot
  rw[M2,bY (f:=λj=>mH deg w x y j*v j) (g:=λj=>cf q j*x ^ j) (λj hj=>by rw[hqv j hj,mH,if_pos hj];grind),←yi x (Nat.le_of_eq hq)]
  rw[bY (f:=λj=>mH deg w x y (deg+w+1+j)*v (deg+w+1+j)) (g:=λj=>(-y)*(cf e j*x ^ j)) (λj hj=>by
   rw[hev j hj,mH,if_neg (by omega),if_pos (by omega),Nat.add_sub_cancel_left];grind),nW]
  grind
 have a2:mH deg w x y (deg+w+1+w)=y*x ^ w:=by rw[mH,if_neg (by omega),if_neg (by omega)]
 have a3:bZ e x=sm w (λk=>cf e k*x ^ k)+x ^ w:=by
  rw[yi x (Nat.le_of_eq he),sm,h1];grind
 rw[a1,a2,a3]
 constructor <;> intro h <;> grind
/-- a monic polynomial of degree w with given roots -/
theorem DK:∀(w:Nat) (rs:List R),rs.length≤w→∃e:List R,e.length=w+1∧cf e w=1∧∀x∈rs,bZ e x=0:=by
 intro w
 induction w with
 | zero=>intro rs h;have:rs=[]:=List.eq_nil_of_length_eq_zero (by omega);subst this;exact⟨[1],rfl,rfl,by simp⟩
 | succ w ih =>
  intro rs h
  have key:∀(r:R) (rs:List R),rs.length≤w→∃e:List R,e.length=w+1+1∧cf e (w+1)=1∧bZ e r=0∧∀x∈rs,bZ e x=0:=by
   intro r rs h
   obtain⟨e,h1,h2,h3⟩:=ih rs h
   refine⟨wP (0::e) (wV r e),by rw[vR,tG];simp;omega,by rw[vF,qm,lv,h2,xe (by omega)];grind,by rw[pU,rf,bZ];grind,λx hx=>by rw[pU,rf,bZ,h3 x hx];grind⟩
  cases rs with
  | nil =>
   obtain⟨e,h1,h2,_,h3⟩:=key 0 [] (by simp)
   exact⟨e,h1,h2,h3⟩
  | cons r rs =>
   obtain⟨e,h1,h2,h4,h3⟩:=key r rs (by simpa using h)
   refine⟨e,h1,h2,λx hx=>?_⟩
   rcases List.mem_cons.1 hx with rfl | hx
   ·exact h4
   ·exact h3 x hx
theorem Ej{deg w:Nat}{f0 bad:List R}(h0:f0.length≤deg+1)(hb:bad.length≤w) :
  ∃v:Nat→R,∀x y:R,(x∈bad∨y=bZ f0 x)→dot (deg+w+1+w) (mH deg w x y) v=mH deg w x y (deg+w+1+w):=by
 obtain⟨e,he,h1,hz⟩:=DK w bad hb
 let q0:=nf f0 e
 let q:List R:=(List.range (deg+w+1)).map (cf q0)
 have hq0:q0.length≤deg+w+1:=by have:=rk f0 e (by omega);show(nf f0 e).length≤_;omega
 have hq:q.length=deg+w+1:=by simp[q]
 have hqc:∀i,cf q i=cf q0 i:=λi=>by
  by_cases g:i<deg+w+1
  ·simp only[q];unfold cf;simp[g]
  ·rw[xe (by omega),xe (by omega)]
 refine⟨λj=>if j<deg+w+1 then cf q j else cf e (j-(deg+w+1)),λx y hxy=>?_⟩
 rw[FG (q:=q) (e:=e) hq he h1 (λj hj=>if_pos hj) (λk hk=>by rw[if_neg (by omega),Nat.add_sub_cancel_left])]
 rw[ly hqc]
 show bZ (nf f0 e) x=_
 rw[pT]
 rcases hxy with g | g
 ·rw[hz x g];grind
 ·rw[g]
end
end Sp

/- The folding of a product modulo a Mersenne prime ends. Plain Lean, no program. -/
set_option linter.unusedVariables false
namespace Sp
def LM(h l:Nat):Nat:=if h=0 then l / 4 else 4611686018427387904+h
theorem LL{p l:Nat}(hp:fQ p)(hl:l<18446744073709551616):l &&& p=fm p l:=by
 have:=hp.q
 unfold fm
 conv=>lhs;rw[this.1]
 exact Nat.and_two_pow_sub_one_eq_mod l (qN p)
theorem GO{p h l:Nat}(hp:fQ p)(hh:h<18446744073709551616)(hl:l<18446744073709551616)(h0:h≠0):nh p h l<h:=by
 have hq:=hp.q
 have h1:=Lc (h:=h) hp
 have h2:=Ld (h:=h) hp hl
 have h3:=Lf (p:=p) hl
 have hc:nc p h l≤1:=by unfold nc;omega
 unfold nh
 by_cases g:h=1
 ·subst g
  have:nc p 1 l=0:=by
   unfold nc
   rw[Nat.div_eq_zero_iff]
   right
   have a1:fm p l<2305843009213693952:=by
    unfold fm
    have:2 ^ qN p≤2 ^ 61:=Nat.pow_le_pow_right (by decide) hq.2.2
    have:=Nat.mod_lt l (Nat.two_pow_pos (qN p))
    omega
   have a2:fl p 1 l<1152921504606846976:=by
    unfold fl
    have e1:l / 2 ^ qN p<2 ^ (64-qN p):=wL hl (by omega)
    have e2:1 % 2 ^ qN p≤1:=Nat.mod_le _ _
    have e3:2 ^ (64-qN p)≤2 ^ 59:=Nat.pow_le_pow_right (by decide) (by omega)
    have e4:2 ^ (64-qN p)*(1 % 2 ^ qN p)≤2 ^ (64-qN p)*1:=Nat.mul_le_mul_left _ e2
    omega
   omega
  omega
 ·omega
theorem GP{p l:Nat}(hp:fQ p)(hl:l<18446744073709551616)(h0:p<l):nh p 0 l=0∧nl p 0 l+31≤l:=by
 have hq:=hp.q
 have e:=BB (p:=p) (h:=0) (l:=l) hp
 rw[Nat.zero_mul,Nat.zero_add] at e
 have hle:=hp.lt
 have hP:2 ^ qN p=p+1:=by have:=Nat.two_pow_pos (qN p);omega
 rw[hP] at e
 have d:=Nat.div_add_mod l (p+1)
 have hk:1≤l / (p+1):=(Nat.le_div_iff_mul_le (by omega)).2 (by omega)
 have:l / (p+1)+31≤(p+1)*(l / (p+1)):=by
  have:=Nat.mul_le_mul_right (l / (p+1)) (show 32≤p+1 by omega)
  omega
 have hs:nh p 0 l*18446744073709551616+nl p 0 l+31≤l:=by omega
 constructor
 ·apply Classical.byContradiction
  intro g
  have:1≤nh p 0 l:=by omega
  have:=Nat.mul_le_mul_right 18446744073709551616 this
  omega
 ·omega
theorem IG{p h l:Nat}(hp:fQ p)(hh:h<4611686018427387904)(hl:l<18446744073709551616)(c:h≠0∨p<l):LM (nh p h l) (nl p h l)<LM h l:=by
 by_cases h0:h=0
 ·subst h0
  have:=GP hp hl (by omega)
  unfold LM
  rw[if_pos this.1,if_pos rfl];omega
 ·have:=GO hp (by omega) hl h0
  have h3:=Lj (p:=p) (h:=h) (l:=l)
  unfold LM
  rw[if_neg h0]
  split <;> omega
theorem LN{h l:Nat}(hh:h<4611686018427387904)(hl:l<18446744073709551616):LM h l<18446744073709551616:=by
 unfold LM;split <;> omega
end Sp
