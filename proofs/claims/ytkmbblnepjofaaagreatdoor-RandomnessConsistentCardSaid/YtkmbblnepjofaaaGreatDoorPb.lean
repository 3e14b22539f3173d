/- Plain laws of the field's functions. -/
import Derived.Test.YtkmbblnepjofaaaGreatDoorX4p
import Derived.Test.YtkmbblnepjofaaaGreatDoorWl
import Derived.Test.YtkmbblnepjofaaaGreatDoorSp
set_option linter.unusedVariables false
namespace Pu
open Gw Gl Sp
theorem zz {a b:Nat} (h:a=b):(((a:Nat):Int) == ((b:Nat):Int))=true:=eT (by rw [h])
theorem Kn {a b:Nat} (h:a≠b):(((a:Nat):Int) == ((b:Nat):Int))=false:=eF (by omega)
theorem Cz {p:Nat} (hp:fW p):qi p=some (nM p):=by
  rcases hp with rfl | rfl | rfl | rfl | rfl | rfl | rfl <;> decide +kernel
theorem vq {a b:Nat} (ha:a < 18446744073709551616) (hb:b < 18446744073709551616):ti a b=a &&& b:=by
  unfold ti;rw [Nat.mod_eq_of_lt ha,Nat.mod_eq_of_lt hb]
theorem qN {a q:Nat} (hq:q≤64):rB a ((q:Nat):Int)=some (a / 2 ^ q):=by
  unfold rB
  rw [if_neg (by omega)]
  simp [Nat.min_eq_left hq]
theorem vd {a q:Nat} (hq:q≤64):yc a ((q:Nat):Int)=some (a*2 ^ q % 18446744073709551616):=by
  unfold yc
  rw [if_neg (by omega)]
  simp [Nat.min_eq_left hq]
theorem tL {a b:Nat} (h:b≤a) (ha:a < 18446744073709551616):uT a b=a - b:=by unfold uT;omega
theorem zR {p h l:Nat} (hp:fW p) (hh:h < 18446744073709551616) (hl:l < 18446744073709551616) (c:h≠0 ∨ p < l):gr p (nM p) h l=some (.go (nh p h l,nl p h l)):=by
  have hq:=hp.q
  have hpl:=hp.lt
  unfold gr
  have hx:(bif ((h:Nat):Int) != (0:Int) then some true else some (decide (((l:Nat):Int) > ((p:Nat):Int))))=some true:=by
    by_cases h0:h=0
    · subst h0
      rw [qF (by simp),cF,dT (by omega)]
    · rw [qT (by omega),cT]
  rw [hx]
  simp only [bS,cT]
  rw [qN (by omega),bS,tL (by omega) (by omega),vd (by omega)]
  simp only [bS]
  rw [qN (by omega)]
  simp only [bS]
  have e1:ti l p=fm p l:=by rw [vq hl (by omega),Gn hp hl]
  have e2:Ir (l / 2 ^ nM p) (h*2 ^ (64 - nM p) % 18446744073709551616)=fl p h l:=by
    unfold Ir
    rw [Nat.mod_eq_of_lt (Nat.lt_of_le_of_lt (Nat.div_le_self ..) hl),Nat.mod_mod]
    exact Is hp hl
  rw [e1,e2]
  have e3:lS (h / 2 ^ nM p) (CZ (fl p h l) (fm p l))=nh p h l:=by
    have:=Io (p:=p) hp hh hl
    show (fh p h+nc p h l) % _=_
    exact Nat.mod_eq_of_lt this
  rw [e3];rfl
theorem Bh {p h l:Nat} (c:¬ (h≠0 ∨ p < l)):gr p (nM p) h l=some (.fin l):=by
  unfold gr
  have h0:h=0:=by omega
  subst h0
  rw [qF (by simp),cF,dF (by omega)]
  simp only [bS,cF]
theorem vJ {p h l:Nat} (hp:fW p) (hh:h < 4611686018427387904) (hl:l < 18446744073709551616):lE p h l=some ((h*18446744073709551616+l) % p):=by
  unfold lE
  rw [Cz hp,bS]
  obtain ⟨r,e,hr⟩:=jU (step:=fun (st:Nat × Nat)=>gr p (nM p) st.1 st.2)
    (fun st=>st.1 < 4611686018427387904∧st.2 < 18446744073709551616∧(st.1*18446744073709551616+st.2) % p=(h*18446744073709551616+l) % p)
    (fun r=>r≤p∧r % p=(h*18446744073709551616+l) % p) (fun st=>Gp st.1 st.2) (fun st ⟨h1,h2,h3⟩=>by
      by_cases c:st.1≠0 ∨ p < st.2
      · refine ⟨_,zR hp (by omega) h2 c,⟨?_,FR,?_⟩,Db hp h1 h2 c⟩
        · by_cases h0:st.1=0
          · rw [h0]
            show nh p 0 st.2 < _
            rw [(BK hp h2 (by omega)).1];omega
          · have:=BI hp (by omega) h2 h0
            show nh p st.1 st.2 < _
            omega
        · exact Bi hp h3
      · refine ⟨_,Bh c,?_,?_⟩
        · show st.2≤p;omega
        · show st.2 % p=_
          rw [← h3]
          have:st.1=0:=by omega
          rw [this];simp) (s:=(h,l)) ⟨hh,hl,rfl⟩ (Gq hh hl)
  rw [e,bS]
  by_cases g:r=p
  · subst g
    rw [zz rfl,cT,← hr.2,Nat.mod_self]
  · rw [Kn g,cF,← hr.2,Nat.mod_eq_of_lt (by omega)]
theorem G0 {a b:Nat} (ha:a < 18446744073709551616) (hb:b < 18446744073709551616):kw a b=some (a*b / 18446744073709551616,a*b % 18446744073709551616):=by
  unfold kw
  have h32:∀ x,x < 18446744073709551616→ti x 4294967295=x % 4294967296:=fun x hx=>by
    rw [vq hx (by omega)];exact Nat.and_two_pow_sub_one_eq_mod x 32
  have s32:∀ x,rB x (32:Int)=some (x / 4294967296):=fun x=>qN (q:=32) (by omega)
  have l1:∀ x y,lS x y < 18446744073709551616:=fun x y=>Nat.mod_lt _ (by decide)
  simp only [bS,s32,h32 a ha,h32 b hb,h32 _ (l1 _ _)]
  have m:=Im a b
  simp only at m
  have ha1:a / 4294967296 < 4294967296:=by omega
  have hb1:b / 4294967296 < 4294967296:=by omega
  have ha0:a % 4294967296 < 4294967296:=Nat.mod_lt _ (by decide)
  have hb0:b % 4294967296 < 4294967296:=Nat.mod_lt _ (by decide)
  have c00:=y3 ha0 hb0
  have c10:=y3 ha1 hb0
  have c01:=y3 ha0 hb1
  have c11:=y3 ha1 hb1
  have hi:=G1 ha hb
  have k1:tz (a % 4294967296) (b % 4294967296)=a % 4294967296*(b % 4294967296):=Nat.mod_eq_of_lt (by omega)
  have k2:tz (a / 4294967296) (b % 4294967296)=a / 4294967296*(b % 4294967296):=Nat.mod_eq_of_lt (by omega)
  have k3:tz (a % 4294967296) (b / 4294967296)=a % 4294967296*(b / 4294967296):=Nat.mod_eq_of_lt (by omega)
  have k4:tz (a / 4294967296) (b / 4294967296)=a / 4294967296*(b / 4294967296):=Nat.mod_eq_of_lt (by omega)
  rw [k1,k2,k3,k4]
  generalize a % 4294967296*(b % 4294967296)=A at *
  generalize a / 4294967296*(b % 4294967296)=B at *
  generalize a % 4294967296*(b / 4294967296)=C at *
  generalize a / 4294967296*(b / 4294967296)=D at *
  have k5:lS B (A / 4294967296)=B+A / 4294967296:=Nat.mod_eq_of_lt (by omega)
  rw [k5]
  have k6:lS ((B+A / 4294967296) % 4294967296) C=(B+A / 4294967296) % 4294967296+C:=Nat.mod_eq_of_lt (by omega)
  rw [k6]
  have k7:lS D ((B+A / 4294967296) / 4294967296)=D+(B+A / 4294967296) / 4294967296:=Nat.mod_eq_of_lt (by omega)
  rw [k7]
  have k8:lS (D+(B+A / 4294967296) / 4294967296) (((B+A / 4294967296) % 4294967296+C) / 4294967296)=D+(B+A / 4294967296) / 4294967296+((B+A / 4294967296) % 4294967296+C) / 4294967296:=Nat.mod_eq_of_lt (by omega)
  rw [k8,m]
  rfl
theorem kY {p a b:Nat} (hp:fW p) (ha:a < p) (hb:b < p):dQ p a b=some (a*b % p):=by
  have hl:=hp.lt
  unfold dQ
  rw [G0 (by omega) (by omega),bS]
  have h1:a*b≤2305843009213693951*2305843009213693951:=Nat.mul_le_mul (by omega) (by omega)
  have h2:a*b / 18446744073709551616 < 4611686018427387904:=by omega
  have h3:a*b % 18446744073709551616 < 18446744073709551616:=Nat.mod_lt _ (by decide)
  rw [vJ hp h2 h3]
  simp only [bS]
  congr 2
  have:=Nat.div_add_mod (a*b) 18446744073709551616
  rw [Nat.mul_comm] at this
  exact this
theorem rq {p a b:Nat} (hp:fW p) (h:a+b < 18446744073709551616):jb p a b=some ((a+b) % p):=by
  unfold jb
  have:lS a b=a+b:=Nat.mod_eq_of_lt h
  rw [this]
  simp only [bS]
  rw [vJ hp (by decide) h]
  simp only [bS,Nat.zero_mul,Nat.zero_add]
theorem Ae {p a:Nat} (hp:fW p) (h:a < 18446744073709551616):mF p a=some (a % p):=by
  unfold mF
  rw [vJ hp (by decide) h]
  simp only [bS,Nat.zero_mul,Nat.zero_add]
theorem BH {p a:Nat} (hp:fW p) (h:a < p):oA p a=some ((p - a) % p):=by
  have hl:=hp.lt
  unfold oA
  by_cases g:a=0
  · subst g;rw [eT (by simp),cT];simp
  · rw [eF (by omega),cF,tL (by omega) (by omega)]
    simp only [bS]
    rw [Nat.mod_eq_of_lt (by omega)]
theorem yd {p a b:Nat} (hp:fW p) (ha:a < p) (hb:b < p):mN p a b=some ((a+(p - b) % p) % p):=by
  have hl:=hp.lt
  have:=Nat.mod_lt (p - b) hp.pos
  unfold mN
  rw [BH hp hb,bS,rq hp (by omega),bS]
theorem G9 {p a n:Nat} (hp:fW p) (ha:a < p) (hn:n < 18446744073709551616):qH p a n=some (a ^ n % p):=by
  have hl:=hp.lt
  unfold qH
  obtain ⟨r,e,hr⟩:=jU (step:=fun (st:Nat × Nat × Nat)=>kW p st.1 st.2.1 st.2.2)
    (fun st=>st.1 < p∧st.2.1 < 18446744073709551616∧st.2.2 < p∧st.2.2*st.1 ^ st.2.1 % p=a ^ n % p)
    (fun r=>r=a ^ n % p) (fun st=>st.2.1) (fun st ⟨h1,h2,h3,h4⟩=>by
      obtain ⟨x,m,o⟩:=st
      simp only at h1 h2 h3 h4
      unfold kW
      by_cases c:m=0
      · subst c
        rw [dF (by simp),cF]
        refine ⟨_,rfl,?_⟩
        show o=_
        rw [← h4];simp [Nat.mod_eq_of_lt h3]
      · rw [dT (by simp;omega),cT]
        have a1:ti m 1=m % 2:=by rw [vq h2 (by decide)];exact Nat.and_two_pow_sub_one_eq_mod m 1
        have s1:rB m (1:Int)=some (m / 2):=qN (q:=1) (by omega)
        rw [bS,a1]
        by_cases g:m % 2=1
        · rw [eT (by omega),cT,kY hp h3 h1,bS,kY hp h1 h1,bS,s1,bS]
          exact ⟨_,rfl,⟨Nat.mod_lt _ hp.pos,by show m / 2 < _;omega,Nat.mod_lt _ hp.pos,pow_odd h4 g⟩,by show m / 2 < m;omega⟩
        · rw [eF (by omega),cF,kY hp h1 h1,bS,s1,bS]
          exact ⟨_,rfl,⟨Nat.mod_lt _ hp.pos,by show m / 2 < _;omega,h3,pow_even h4 (by omega)⟩,by show m / 2 < m;omega⟩)
    (s:=(a,n,1)) ⟨ha,hn,(show (1:Nat) < p by omega),by simp⟩ hn
  rw [e,bS,hr]
theorem GV {p a:Nat} (hp:fW p) (ha:a < p) (h0:a≠0):lN p a=some (FW p a (p - 2),0):=by
  have hl:=hp.lt
  unfold lN
  rw [eF (by omega),cF,tL (by omega) (by omega)]
  simp only [bS]
  rw [G9 hp ha (by omega),bS]
  rfl
theorem xX {p a b:Nat} [NeZero p] (hb:b < p):o p ((a+(p - b) % p) % p)=o p a - o p b:=by
  rw [kZ,um,kZ,FS (by omega),BN];grind
theorem G3 {p b:Nat} [NeZero p] (hb:b < p):o p ((p - b) % p) = - o p b:=by
  rw [kZ,FS (by omega),BN];grind
end Pu

/- Plain laws of the elimination. -/
set_option linter.unusedVariables false
namespace Pu
open Gw Gl Sp Lean.Grind
structure xw (p h n:Nat) (l:List (List Nat)):Prop where
  len:l.length=h
  row:∀ i,i < h→(l.getD i []).length=n
  lt:∀ i,i < h→∀ j,j < n→(l.getD i []).getD j 0 < p
def G (p:Nat) [NeZero p] (l:List (List Nat)) (i j:Nat):Fin p:=o p ((l.getD i []).getD j 0)
theorem wo {l:List Nat} (h:l.length≤1000):cE l=some l:=by
  unfold cE
  rw [aS (by simp;omega) (by simp;omega),bS,List.nil_append]
theorem qG {l:List (List Nat)} (h:l.length≤1000):bZ l=some l:=by
  unfold bZ
  rw [aS (by simp;omega) (by simp;omega),bS,List.nil_append]
theorem ri {α:Type} {l:List α} {k:Nat} {d:α} (h:k < l.length):l.set k (l.getD k d)=l:=by
  apply List.ext_getElem?
  intro i
  rw [List.getElem?_set]
  split
  · next e =>
    subst e
    simp [h]
  · rfl
theorem xw.some {p h n i:Nat} {l:List (List Nat)} (m:xw p h n l) (hi:i < h):l[i]?=some (l.getD i []):=ix [] (by rw [m.len];exact hi)
theorem rd {p h n i j:Nat} {l:List (List Nat)} (m:xw p h n l) (hi:i < h) (hj:j < n):(l.getD i [])[j]?=some ((l.getD i []).getD j 0):=ix 0 (by rw [m.row i hi];exact hj)
section
variable {p:Nat} [NeZero p] {h n:Nat}
end
section
variable {p:Nat} [NeZero p] {h n:Nat}
end
end Pu

/- Plain laws of solving linear equations. -/
set_option linter.unusedVariables false
namespace Pu
open Gw Gl Sp Lean.Grind
theorem dN {α:Type} {a b:List α} {i:Nat} {d:α} (h:i < a.length):(a++b).getD i d=a.getD i d:=by
  rw [List.getD_eq_getElem?_getD,List.getElem?_append_left h,← List.getD_eq_getElem?_getD]
theorem hQ {α:Type} {a:List α} {x d:α} {i:Nat} (h:i=a.length):(a++[x]).getD i d=x:=by
  subst h;simp [List.getD_eq_getElem?_getD]
section
variable {p:Nat} [NeZero p] {h n:Nat}
end
end Pu

/- Plain laws of polynomials. -/
set_option linter.unusedVariables false
namespace Pu
open Gw Gl Sp Lean.Grind
def Lt (p:Nat) (l:List Nat):Prop:=∀ i,i < l.length→l.getD i 0 < p
theorem Lt.get {p:Nat} {l:List Nat} (hp:0 < p) (h:Lt p l) (i:Nat):l.getD i 0 < p:=by
  by_cases g:i < l.length
  · exact h i g
  · rw [List.getD_eq_getElem?_getD,List.getElem?_eq_none (by omega)];exact hp
theorem pe {α:Type} {l:List α} {i:Nat} {d:α} (h:l.length≤i):l.getD i d=d:=by
  rw [List.getD_eq_getElem?_getD,List.getElem?_eq_none h];rfl
/-- the degree -/
theorem zL {f:List Nat} (h:f.length≤1000):∃ k:Nat,k≤f.length∧nn f=some ((k:Int) - 1)∧(∀ i,k≤i→f.getD i 0=0)∧(k=0 ∨ f.getD (k - 1) 0≠0):=by
  unfold nn
  rw [cy (by omega) (by omega),bS]
  obtain ⟨o,e,ho⟩:=jU (step:=fun (st:Int)=>m8 f st) (fun st=>∃ k:Nat,st=(k:Int) - 1∧k≤f.length∧∀ i,k≤i→f.getD i 0=0)
    (fun (o:Int ⊕ Unit)=>∃ k:Nat,k≤f.length∧(∀ i,k≤i→f.getD i 0=0)∧((o=.inr ()∧k=0) ∨ (o=.inl ((k:Int) - 1)∧0 < k∧f.getD (k - 1) 0≠0))) (fun st=>(st+1).toNat) (fun st ⟨k,h1,h2,h3⟩=>by
      subst h1
      unfold m8
      by_cases g:k=0
      · subst g
        rw [dF (by omega),cF]
        exact ⟨_,rfl,0,by omega,h3,.inl ⟨rfl,rfl⟩⟩
      · rw [dT (by omega),cT,aT 0 (by omega) (by omega),bS]
        have e1:((k:Int) - 1).toNat=k - 1:=by omega
        rw [e1]
        by_cases z:f.getD (k - 1) 0=0
        · rw [qF (by omega),cF,cy (by omega) (by omega),bS]
          refine ⟨_,rfl,⟨k - 1,by omega,by omega,fun i hi=>?_⟩,by omega⟩
          by_cases e:i=k - 1
          · subst e;exact z
          · exact h3 i (by omega)
        · rw [qT (by omega),cT]
          exact ⟨_,rfl,k,h2,h3,.inr ⟨rfl,by omega,z⟩⟩)
    (s:=((f.length:Nat):Int) - 1) ⟨f.length,rfl,Nat.le_refl _,fun i hi=>pe hi⟩ (by omega)
  rw [e,bS]
  obtain ⟨k,h1,h2,⟨rfl,rfl⟩ | ⟨rfl,h3,h4⟩⟩:=ho
  · exact ⟨0,by omega,by rw [KW];rfl,h2,.inl rfl⟩
  · exact ⟨k,h1,by rw [KJ],h2,.inr h4⟩
/-- without zeros at the end -/
theorem Fs {f:List Nat} (h:f.length≤1000):∃ t:List Nat,kJ f=some t∧t.length≤f.length∧(∀ i,t.getD i 0=f.getD i 0)∧(t=[] ∨ t.getD (t.length - 1) 0≠0):=by
  obtain ⟨k,h1,h2,h3,h4⟩:=zL h
  unfold kJ
  have e0:(k:Int) - 1+1=(k:Int):=by omega
  rw [h2,bS,bh (by omega) (by omega),bS,e0,iy (by omega) (by omega) (by omega),bS]
  have e1:List.take (((k:Int)).toNat - (0:Int).toNat) (List.drop ((0:Int).toNat) f)=f.take k:=by simp
  rw [e1,aS (by simp;omega) (by simp;omega),bS,List.nil_append]
  have hl:(f.take k).length=k:=by simp;omega
  have hg:∀ i,(f.take k).getD i 0=f.getD i 0:=fun i=>by
    by_cases g:i < k
    · rw [List.getD_eq_getElem?_getD,List.getElem?_take,if_pos g,← List.getD_eq_getElem?_getD]
    · rw [pe (by omega),h3 i (by omega)]
  refine ⟨_,rfl,by omega,hg,?_⟩
  rcases h4 with rfl | h4
  · left;simp
  · right;rw [hl,hg];exact h4
section
variable {p:Nat} [NeZero p]
def P (p:Nat) [NeZero p] (f:List Nat):List (Fin p):=f.map (o p)
theorem ra (f:List Nat):(P p f).length=f.length:=by simp [P]
theorem pY (f:List Nat) (i:Nat):cf (P p f) i=o p (f.getD i 0):=by
  unfold cf P
  rw [List.getD_eq_getElem?_getD,List.getElem?_map,List.getD_eq_getElem?_getD]
  cases f[i]? with
  | none=>exact mw.symm
  | some x=>rfl
theorem CQ {f g:List Nat} (h:∀ i,f.getD i 0=g.getD i 0) (x:Fin p):dc (P p f) x=dc (P p g) x:=mM (fun i=>by rw [pY,pY,h i]) x
theorem C6 (hp:fW p) {f:List Nat} {x:Nat} (hf:Lt p f) (hx:x < p) (h:f.length≤1000):∃ y,jd p f x=some y∧y < p∧o p y=dc (P p f) (o p x):=by
  have hl:=hp.lt
  unfold jd
  rw [cy (by omega) (by omega),bS]
  obtain ⟨r,e,h1,h2⟩:=jU (step:=fun (st:Nat × Int)=>k9 p f x st.1 st.2) (fun st=>∃ k:Nat,st.2=(k:Int) - 1∧k≤f.length∧st.1 < p∧o p st.1=dc (P p (f.drop k)) (o p x))
    (fun r=>r < p∧o p r=dc (P p f) (o p x)) (fun st=>(st.2+1).toNat) (fun st ⟨k,h1,h2,h3,h4⟩=>by
      obtain ⟨a,z⟩:=st
      simp only at h1 h3 h4
      subst h1
      unfold k9
      by_cases g:k=0
      · subst g
        rw [dF (by omega),cF]
        exact ⟨_,rfl,h3,h4⟩
      · have e1:((k:Int) - 1).toNat=k - 1:=by omega
        have hm:=Nat.mod_lt (a*x) hp.pos
        have hfk:=hf (k - 1) (by omega)
        rw [dT (by omega),cT,kY hp h3 hx,bS,aT 0 (by omega) (by omega),bS,e1,rq hp (by omega),bS,cy (by omega) (by omega),bS]
        refine ⟨_,rfl,⟨k - 1,by show (k:Int) - 1 - 1=_;omega,by omega,Nat.mod_lt _ hp.pos,?_⟩,by show ((k:Int) - 1 - 1+1).toNat < ((k:Int) - 1+1).toNat;omega⟩
        show o p _=_
        have ed:f.drop (k - 1)=f.getD (k - 1) 0 :: f.drop k:=by
          rw [List.drop_eq_getElem_cons (show k - 1 < f.length by omega),show k - 1+1=k by omega,List.getD_eq_getElem?_getD,List.getElem?_eq_getElem (by omega)];rfl
        rw [ed,kZ,um,kZ,oD,h4]
        show _=o p _+o p x*dc (P p (f.drop k)) (o p x)
        grind)
    (s:=(0,((f.length:Nat):Int) - 1)) ⟨f.length,rfl,Nat.le_refl _,hp.pos,by
      show o p 0=_
      rw [List.drop_length,mw];rfl⟩ (by show ((f.length:Int) - 1+1).toNat < _;omega)
  rw [e,bS]
  exact ⟨r,rfl,h1,h2⟩
end
theorem vn {p:Nat} {l:List Nat} {i v:Nat} (h:Lt p l) (hv:v < p):Lt p (l.set i v):=fun j hj=>by
  rw [List.length_set] at hj
  by_cases g:i < l.length
  · rw [aX g];split
    · exact hv
    · exact h j hj
  · rw [List.set_eq_of_length_le (by omega)];exact h j hj
section
variable {p:Nat} [NeZero p]
end
end Pu

/- Plain laws of the decoder of Reed and Solomon. -/
set_option linter.unusedVariables false
namespace Pu
open Gw Gl Sp Lean.Grind
instance:Inhabited bH:=⟨⟨0,0⟩⟩
section
variable {p:Nat} [NeZero p]
end
end Pu

/- Plain laws of the network: deviations, messages, views. -/
set_option linter.unusedVariables false
namespace Pu
open Gw Gl Sp
instance:Inhabited aM:=⟨⟨0,0,0,0,0,0,0,0⟩⟩
instance:Inhabited al:=⟨⟨0,0,[]⟩⟩
/-- what a valid scenario says -/
structure Sc (w:ab) (n t:Nat):Prop where
  sup:fW w.S.P
  N:w.S.N=n
  T:w.S.T=t
  n4:4≤n
  n13:n≤13
  t1:1≤t
  t3:3*t < n
  cl:w.af.length≤t
  cr:∀ x ∈ w.af,1≤x∧x≤n
  dl:w.aa.length≤40
  dv:∀ x ∈ w.aa,1≤x.From∧x.From≤n∧0≤x.At∧0≤x.bi∧0≤x.Of∧x.Of≤n∧(x.Kind=3→1≤x.Of)∧x.K < 18446744073709551616
theorem me {l:List Int} {v:Int}:cD l v=some (decide (v ∈ l)):=by
  unfold cD jh
  rw [Nat.sub_zero]
  obtain ⟨o,e,ho⟩:=dM (body:=fun k1 (st:Unit)=>ie l v k1) (fun k _=>∀ i,i < k→l.getD i 0≠v) (fun r=>0≤r∧v ∈ l) (rem:=l.length) (k:=0) (s:=()) (fun i hi=>by omega) (fun k _ _ hk h=>by
    unfold ie
    have hkl:k < l.length:=by omega
    rw [ix 0 hkl,bS]
    by_cases g:v=l.getD k 0
    · rw [eT g,cT]
      refine ⟨_,rfl,by omega,?_⟩
      rw [g,List.getD_eq_getElem?_getD,List.getElem?_eq_getElem hkl]
      exact List.getElem_mem hkl
    · rw [eF g,cF]
      refine ⟨_,rfl,fun i hi=>?_⟩
      by_cases e:i=k
      · subst e;exact fun z=>g z.symm
      · exact h i (by omega))
  rw [e,bS]
  cases o with
  | fin r=>rw [oF,bS,dT ho.1,dT ho.2]
  | go s =>
    rw [oG,bS,dF (by omega),dF]
    intro hv
    obtain ⟨i,hi,rfl⟩:=List.getElem_of_mem hv
    apply ho i (by omega)
    rw [List.getD_eq_getElem?_getD,List.getElem?_eq_getElem hi];rfl
theorem FB {l:List Nat} {i:Int} (h:l.length≤1000):∃ x,jB l i=some x∧∀ p,0 < p→Lt p l→x < p:=by
  unfold jB
  by_cases g:i < 0
  · rw [dT g,cT];exact ⟨0,rfl,fun p hp _=>hp⟩
  · rw [dF g,cF]
    by_cases g2:i < l.length
    · rw [dF (by omega),cF,aT 0 (by omega) g2,bS]
      exact ⟨_,rfl,fun p hp hl=>hl _ (by omega)⟩
    · rw [dT (by omega),cT];exact ⟨0,rfl,fun p hp _=>hp⟩
theorem zv {w:ab} {n t:Nat} (s:Sc w n t) {x:aM} {l said:List Nat} (hx:x ∈ w.aa) (hl:Lt w.S.P l) (hll:l.length≤1000) (hs:Lt w.S.P said) (hsl:said.length≤1000) :
    ∃ r,jA w x l said=some r∧Lt w.S.P r∧r.length≤l.length:=by
  have hp:=s.sup
  have hlt:=hp.lt
  obtain ⟨d1,d2,d3,d4,d5,d6,d7,d8⟩:=s.dv x hx
  unfold jA
  by_cases k4:x.Kind=4
  · rw [eT k4,cT];exact ⟨_,rfl,fun i hi=>by simp at hi,by simp⟩
  · rw [eF k4,cF]
    by_cases ha:x.At < (l.length:Int)
    · have hk:=Nat.mod_lt x.K hp.pos
      have hat:x.At.toNat < l.length:=by omega
      have hla:=hl _ hat
      rw [dF (by omega),cF,Ae hp d8,bS,wo (by omega),bS]
      by_cases k1:x.Kind=1
      · rw [eT k1,cT,aT 0 d3 ha,bS,bS]
        exact ⟨_,rfl,vn hl hk,by simp⟩
      · rw [eF k1,cF]
        by_cases k2:x.Kind=2
        · rw [eT k2,cT,aT 0 d3 ha,bS,rq hp (by omega),bS,bS]
          exact ⟨_,rfl,vn hl (Nat.mod_lt _ hp.pos),by simp⟩
        · rw [eF k2,cF]
          by_cases k3:x.Kind=3
          · rw [eT k3,cT,me,bS]
            obtain ⟨y,ey,hy⟩:=FB (l:=said) (i:=x.bi) (by omega)
            obtain ⟨z,ez,hz⟩:∃ z,(bif !(decide (x.Of ∈ w.af)) then jB said x.bi >>= fun r5=>some r5 else some 0)=some z∧z < w.S.P:=by
              cases decide (x.Of ∈ w.af) with
              | false=>rw [nF,cT,ey,bS];exact ⟨_,rfl,hy _ hp.pos hs⟩
              | true=>rw [nT,cF];exact ⟨_,rfl,hp.pos⟩
            have hm:=Nat.mod_lt (x.K % w.S.P*z) hp.pos
            rw [ez,bS,aT 0 d3 ha,bS,kY hp hk hz,bS,rq hp (by omega),bS,bS]
            exact ⟨_,rfl,vn hl (Nat.mod_lt _ hp.pos),by simp⟩
          · rw [eF k3,cF];exact ⟨_,rfl,hl,Nat.le_refl _⟩
    · rw [dT (by omega),cT];exact ⟨_,rfl,hl,Nat.le_refl _⟩
/-- messages between n parties: at most L words each, below p -/
structure Sq (p n L:Nat) (m:List (List (List Nat))):Prop where
  len:m.length=n
  row:∀ i,i < n→(m.getD i []).length=n
  w:∀ i,i < n→∀ j,j < n→Lt p ((m.getD i []).getD j [])∧((m.getD i []).getD j []).length≤L
theorem Sq.s1 {p n L i:Nat} {m:List (List (List Nat))} (s:Sq p n L m) (hi:i < n):m[i]?=some (m.getD i []):=ix [] (by rw [s.len];exact hi)
theorem Sq.s2 {p n L i j:Nat} {m:List (List (List Nat))} (s:Sq p n L m) (hi:i < n) (hj:j < n):(m.getD i [])[j]?=some ((m.getD i []).getD j []):=ix [] (by rw [s.row i hi];exact hj)
theorem Sq.setW {p n L i j:Nat} {m:List (List (List Nat))} {r:List Nat} (s:Sq p n L m) (hi:i < n) (hj:j < n) (hr:Lt p r∧r.length≤L):Sq p n L (m.set i ((m.getD i []).set j r)):=by
  have hil:i < m.length:=by rw [s.len];exact hi
  refine ⟨by rw [List.length_set];exact s.len,fun k hk=>?_,fun k hk q hq=>?_⟩
  · rw [aX hil];split
    · rw [List.length_set];exact s.row i hi
    · exact s.row k hk
  · rw [aX hil];split
    · rw [aX (by rw [s.row i hi];exact hj)];split
      · exact hr
      · exact s.w i hi q hq
    · exact s.w k hk q hq
/-- the deviations of a round -/
theorem AD {w:ab} {n t L:Nat} (s:Sc w n t) {out:List (List (List Nat))} {round:Int} (ho:Sq w.S.P n L out) (hL:L≤1000) :
    ∃ all,br w round out=some all∧(Sq w.S.P n L all∧∀ i,i < n→∀ j,j < n→((all.getD i []).getD j []).length≤((out.getD i []).getD j []).length)∧∀ i,i < n→(((i:Nat):Int)+1) ∉ w.af→all.getD i []=out.getD i []:=by
  have h13:=s.n13
  unfold br
  rw [ho.len,cK (by omega) (by omega) (by omega) (by omega),bS,Nat.sub_zero,Int.toNat_natCast]
  obtain ⟨l3,e3,h1,h2⟩:=bw (body:=fun k1 (st:(List (List (List Nat))))=>cX out k1 st) (rem:=n) (k:=0) (s:=List.replicate n [])
    (fun k l=>l.length=n∧∀ i,i < k→l.getD i []=out.getD i []) ⟨by simp,fun i hi=>by omega⟩ (fun k l _ hk ⟨h1,h2⟩=>by
      have hk':k < n:=by omega
      unfold cX
      rw [ho.s1 hk',bS,qG (by rw [ho.row k hk'];omega),bS,ix [] (by omega),bS,bS]
      refine ⟨_,rfl,by rw [List.length_set];exact h1,fun i hi=>?_⟩
      rw [aX (by omega)]
      by_cases g:k=i
      · rw [if_pos g,g]
      · rw [if_neg g];exact h2 i (by omega))
  have hl3:l3=out:=by
    apply List.ext_getElem?
    intro i
    by_cases g:i < n
    · rw [ix [] (by omega),ix [] (by rw [ho.len];omega),h2 i (by omega)]
    · rw [List.getElem?_eq_none (by omega),List.getElem?_eq_none (by rw [ho.len];omega)]
  subst hl3
  rw [e3,bS,Nat.sub_zero]
  obtain ⟨all,e,k1,k2⟩:=bw (body:=fun k2 (st:(List (List (List Nat))))=>fJ w round l3 k2 st) (rem:=w.aa.length) (k:=0) (s:=l3)
    (fun _ all=>(Sq w.S.P n L all∧∀ i,i < n→∀ j,j < n→((all.getD i []).getD j []).length≤((l3.getD i []).getD j []).length)∧∀ i,i < n→(((i:Nat):Int)+1) ∉ w.af→all.getD i []=l3.getD i []) ⟨⟨ho,fun _ _ _ _=>Nat.le_refl _⟩,fun _ _ _=>rfl⟩ (fun k all _ hk ⟨⟨k1,kl⟩,k2⟩=>by
      have hkd:k < w.aa.length:=by omega
      unfold fJ
      rw [ix default hkd,bS]
      have hx:w.aa.getD k default ∈ w.aa:=by
        rw [List.getD_eq_getElem?_getD,List.getElem?_eq_getElem hkd];exact List.getElem_mem hkd
      generalize w.aa.getD k default=x at hx
      obtain ⟨d1,d2,d3,d4,d5,d6,d7,d8⟩:=s.dv x hx
      unfold jz
      by_cases g:x.Round=round∧x.From ∈ w.af
      · rw [eT g.1,cT,me,bS,bS,dT g.2,nT,cF]
        have hf:x.From.toNat - 1 < n:=by omega
        have hfe:(x.From - 1).toNat=x.From.toNat - 1:=by omega
        obtain ⟨said,es,hs1,hs2⟩:∃ said,(bif x.Kind == (3:Int) then
            kj x.Of (1:Int) >>= fun x6=>iK l3 x6 >>= fun x7=>kj x.From (1:Int) >>= fun x8=>iK x7 x8 >>= fun x9=>some x9
          else some ([]:List Nat))=some said∧Lt w.S.P said∧said.length≤1000:=by
          by_cases k3:x.Kind=3
          · have h7:=d7 k3
            have hoe:(x.Of - 1).toNat < n:=by omega
            rw [eT k3,cT,cy (by omega) (by omega),bS,aT [] (by omega) (by rw [ho.len];omega),bS,cy (by omega) (by omega),bS,aT [] (by omega) (by rw [ho.row _ hoe];omega),bS]
            have:=ho.w _ hoe (x.From - 1).toNat (by omega)
            exact ⟨_,rfl,this.1,by omega⟩
          · rw [eF k3,cF];exact ⟨_,rfl,fun i hi=>by simp at hi,by simp⟩
        rw [es,bS,cy (by omega) (by omega),bS,aT [] (by omega) (by rw [k1.len];omega),bS,hfe,k1.row _ hf,cq (by omega),bS,Nat.sub_zero]
        obtain ⟨all',e',q1,q2⟩:=bw (body:=fun k3 (st:(List (List (List Nat))))=>fK w x said (x.From - 1) k3 st) (rem:=n) (k:=0) (s:=all)
          (fun _ a=>(Sq w.S.P n L a∧∀ i,i < n→∀ j,j < n→((a.getD i []).getD j []).length≤((l3.getD i []).getD j []).length)∧∀ i,i < n→i≠x.From.toNat - 1→a.getD i []=all.getD i []) ⟨⟨k1,kl⟩,fun _ _ _=>rfl⟩ (fun j a _ hj ⟨⟨q1,ql⟩,q2⟩=>by
            have hjn:j < n:=by omega
            unfold fK
            rw [bh (by omega) (by omega),bS]
            have:∃ b,(bif (((j:Nat):Int)+1) != x.From then bif x.To == (0:Int) then some true else some (x.To == (((j:Nat):Int)+1)) else some false)=some b:=by
              by_cases g1:((j:Nat):Int)+1=x.From
              · rw [qF g1,cF];exact ⟨_,rfl⟩
              · rw [qT g1,cT]
                by_cases g2:x.To=0
                · rw [eT g2,cT];exact ⟨_,rfl⟩
                · rw [eF g2,cF];exact ⟨_,rfl⟩
            obtain ⟨b,eb⟩:=this
            rw [eb,bS]
            cases b with
            | false=>rw [cF];exact ⟨_,rfl,⟨q1,ql⟩,q2⟩
            | true =>
              rw [cT,aT [] (by omega) (by rw [q1.len];omega),bS,hfe,q1.s2 hf hjn,bS]
              obtain ⟨hw1,hw2⟩:=q1.w _ hf j hjn
              obtain ⟨r,er,r1,r2⟩:=zv s hx hw1 (by omega) hs1 hs2
              rw [er,bS,bS,bS]
              have hql:=ql _ hf j hjn
              refine ⟨_,rfl,⟨q1.setW hf hjn ⟨r1,by omega⟩,fun i hi j' hj'=>?_⟩,fun i hi hne=>?_⟩
              · rw [aX (by rw [q1.len];exact hf)]
                by_cases g:x.From.toNat - 1=i
                · rw [if_pos g,aX (by rw [q1.row _ hf];exact hjn),← g]
                  by_cases g':j=j'
                  · rw [if_pos g',← g'];omega
                  · rw [if_neg g'];exact ql _ hf j' hj'
                · rw [if_neg g];exact ql i hi j' hj'
              rw [aX (by rw [q1.len];exact hf),if_neg (fun e=>hne e.symm)];exact q2 i hi hne)
        rw [e',bS]
        refine ⟨_,rfl,q1,fun i hi hc=>?_⟩
        rw [q2 i hi (fun e => hc (by rw [e]; have : ((x.From.toNat - 1 : Nat) : Int) + 1 = x.From := by omega
                                     rw [this];exact g.2))]
        exact k2 i hi hc
      · have:(bif x.Round == round then cD w.af x.From >>= fun r1=>some r1 else some false)=some false:=by
          by_cases g1:x.Round=round
          · rw [eT g1,cT,me,bS,dF (fun h=>g ⟨g1,h⟩)]
          · rw [eF g1,cF]
        rw [this,bS,nF,cT]
        exact ⟨_,rfl,⟨k1,kl⟩,k2⟩)
  rw [e,bS]
  exact ⟨_,rfl,k1,k2⟩
/-- what a party receives in a round, as its view has it -/
def yz (round:Int) (all:List (List (List Nat))) (j k:Nat):List al :=
  ((List.range k).filter fun i=>decide (i≠j∧0 < ((all.getD i []).getD j []).length)).map fun i=>⟨round,((i:Nat):Int)+1,(all.getD i []).getD j []⟩
theorem yA {round:Int} {all:List (List (List Nat))} {j k:Nat}:(yz round all j k).length≤k:=by
  unfold yz;rw [List.length_map];exact Nat.le_trans (List.length_filter_le ..) (by simp)
theorem A2 {round:Int} {all:List (List (List Nat))} {j k:Nat}:yz round all j (k+1)=yz round all j k++if k≠j∧0 < ((all.getD k []).getD j []).length then [⟨round,((k:Nat):Int)+1,(all.getD k []).getD j []⟩] else []:=by
  unfold yz
  rw [List.range_succ,List.filter_append,List.map_append]
  congr 1
  by_cases g:k≠j∧0 < ((all.getD k []).getD j []).length
  · rw [if_pos g];simp only [List.filter_cons,decide_eq_true g,List.filter_nil];simp
  · rw [if_neg g];simp only [List.filter_cons,decide_eq_false g,List.filter_nil];simp
theorem y5 {net:ap} {j k:Nat} {l:List Nat} (hv:j < net.au.length) (hl:l.length≤1000) (hb:(net.au.getD j []).length≤1000) (hk:k≤1000) :
    iC net ((j:Nat):Int) ((k:Nat):Int) l=some (if k≠j∧0 < l.length then net.au.set j (net.au.getD j []++[⟨net.ah,((k:Nat):Int)+1,l⟩]) else net.au):=by
  unfold iC
  by_cases g:j=k
  · rw [qF (by omega),cF,bS,cF,if_neg (by omega)]
  · rw [qT (by omega),cT]
    by_cases g2:0 < l.length
    · rw [dT (by omega),bS,cT,aT [] (by omega) (by omega),bS,bh (by omega) (by omega),bS,aS (by simp;omega) (by simp;omega),bS,List.nil_append]
      simp only [Int.toNat_natCast]
      rw [aS (by simp only [List.length_cons,List.length_nil];omega) (by simp only [List.length_cons,List.length_nil];omega),bS,bS,if_pos ⟨fun e=>g e.symm,g2⟩]
    · rw [dF (by omega),bS,cF,if_neg (fun h=>g2 h.2)]
/-- a round -/
theorem zk {net:ap} {n t L:Nat} (s:Sc net.zw n t) {out:List (List (List Nat))} (ho:Sq net.zw.S.P n L out) (hL:L≤1000) (hv:net.au.length=n) (hb:∀ j,j < n→(net.au.getD j []).length≤500) (hr:0≤net.ah∧net.ah≤1000) :
    ∃ all inn views,br net.zw net.ah out=some all∧iB net out=some (inn,net.ah+1,views)∧(Sq net.zw.S.P n L all∧∀ i,i < n→∀ j,j < n→((all.getD i []).getD j []).length≤((out.getD i []).getD j []).length)∧(∀ i,i < n→(((i:Nat):Int)+1) ∉ net.zw.af→all.getD i []=out.getD i []) ∧
      inn.length=n∧(∀ j,j < n→(inn.getD j []).length=n∧∀ i,i < n→(inn.getD j []).getD i []=(all.getD i []).getD j [])∧views.length=n∧∀ j,j < n→views.getD j []=net.au.getD j []++yz net.ah all j n:=by
  have h13:=s.n13
  obtain ⟨all,ea,⟨q1,ql⟩,q2⟩:=AD (round:=net.ah) s ho hL
  unfold iB
  rw [ea,bS,s.N,cK (by omega) (by omega) (by omega) (by omega),bS,Int.toNat_natCast,List.length_replicate,Nat.sub_zero]
  obtain ⟨⟨views,inn⟩,e,h1,h2,h3,h4,h5,h6⟩:=bw (body:=fun k1 (st:(List (List al)) × (List (List (List Nat))))=>fR net all k1 st.1 st.2) (rem:=n) (k:=0) (s:=(net.au,List.replicate n []))
    (fun k st=>st.1.length=n∧st.2.length=n∧(∀ j,j < k→st.1.getD j []=net.au.getD j []++yz net.ah all j n)∧(∀ j,k≤j→st.1.getD j []=net.au.getD j [])∧(∀ j,j < k→(st.2.getD j []).length=n∧∀ i,i < n→(st.2.getD j []).getD i []=(all.getD i []).getD j [])∧(∀ j,k≤j→st.2.getD j []=[]))
    ⟨hv,by simp,fun j hj=>by omega,fun _ _=>rfl,fun j hj=>by omega,fun j _=>by by_cases g:j < n <;> simp [List.getD_eq_getElem?_getD,g]⟩ (fun j st _ hj ⟨h1,h2,h3,h4,h5,h6⟩=>by
      have hjn:j < n:=by omega
      unfold fR
      have hmx:max 0 net.zw.S.N.toNat=n:=by rw [s.N];simp
      rw [hmx,cq (by omega),bS,Nat.sub_zero]
      obtain ⟨⟨v',i'⟩,e',g1,g2,g3,g4,g5,g6,g7⟩:=bw (body:=fun k2 (st:(List (List al)) × (List (List (List Nat))))=>fS net all j k2 st.1 st.2) (rem:=n) (k:=0) (s:=(st.1,st.2))
        (fun k q=>q.1.length=n∧q.2.length=n∧q.1.getD j []=net.au.getD j []++yz net.ah all j k∧(∀ i,i≠j→q.1.getD i []=st.1.getD i [])∧(q.2.getD j []).length=k∧(∀ i,i < k→(q.2.getD j []).getD i []=(all.getD i []).getD j [])∧(∀ i,i≠j→q.2.getD i []=st.2.getD i []))
        ⟨h1,h2,by rw [h4 j (Nat.le_refl j)];simp [yz],fun _ _=>rfl,by rw [h6 j (Nat.le_refl j)];rfl,fun i hi=>by omega,fun _ _=>rfl⟩ (fun k q _ hk ⟨g1,g2,g3,g4,g5,g6,g7⟩=>by
          have hkn:k < n:=by omega
          obtain ⟨w1,w2⟩:=q1.w k hkn j hjn
          have hel:=yA (round:=net.ah) (all:=all) (j:=j) (k:=k)
          have hbj:=hb j hjn
          have hq1:(q.1.getD j []).length≤600:=by rw [g3,List.length_append];omega
          unfold fS
          rw [q1.s1 hkn,bS,q1.s2 hkn hjn,bS,aS (by simp only [List.length_nil];omega) (by simp only [List.length_nil];omega),bS,List.nil_append,ix [] (by omega),bS,aS (by rw [g5];simp;omega) (by rw [g5];simp;omega),bS,bS,y5 (net:=⟨net.zw,net.ah,q.1,net.am⟩) (by show j < q.1.length;omega) (by omega) (by show (q.1.getD j []).length≤1000;omega) (by omega),bS]
          refine ⟨_,rfl,?_,by show (q.2.set j _).length=n;rw [List.length_set];exact g2,?_,fun i hi=>?_,?_,fun i hi=>?_,fun i hi=>?_⟩
          · show (if _ then q.1.set j _ else q.1).length=n
            split
            · rw [List.length_set];exact g1
            · exact g1
          · show (if _ then q.1.set j _ else q.1).getD j []=_
            rw [A2]
            split
            · rw [aX (by omega),if_pos rfl,g3,List.append_assoc]
            · rw [List.append_nil];exact g3
          · show (if _ then q.1.set j _ else q.1).getD i []=_
            split
            · rw [aX (by omega),if_neg (fun e=>hi e.symm)];exact g4 i hi
            · exact g4 i hi
          · show ((q.2.set j _).getD j []).length=_
            rw [aX (by omega),if_pos rfl,List.length_append,g5];rfl
          · show ((q.2.set j _).getD j []).getD i []=_
            rw [aX (by omega),if_pos rfl]
            by_cases g:i < k
            · rw [dN (by omega)];exact g6 i g
            · have:i=k:=by omega
              subst this
              exact hQ g5.symm
          · show (q.2.set j _).getD i []=_
            rw [aX (by omega),if_neg (fun e=>hi e.symm)];exact g7 i hi)
      rw [Nat.zero_add] at g3 g5 g6
      simp only at g1 g2 g3 g4 g5 g6 g7
      rw [e',bS]
      refine ⟨_,rfl,g1,g2,fun i hi=>?_,fun i hi=>?_,fun i hi=>?_,fun i hi=>?_⟩
      · by_cases g:i=j
        · subst g;exact g3
        · show v'.getD i []=_;rw [g4 i g];exact h3 i (by omega)
      · show v'.getD i []=_;rw [g4 i (by omega)];exact h4 i (by omega)
      · by_cases g:i=j
        · subst g;exact ⟨g5,g6⟩
        · show (i'.getD i []).length=n∧_
          simp only
          rw [g7 i g];exact h5 i (by omega)
      · show i'.getD i []=_;rw [g7 i (by omega)];exact h6 i (by omega))
  rw [Nat.zero_add] at h3 h5
  simp only at h1 h2 h3 h5
  rw [e,bS]
  simp only
  rw [bh (by omega) (by omega),bS]
  exact ⟨_,_,_,rfl,rfl,⟨q1,ql⟩,q2,h2,h5,h1,h3⟩
theorem oQ {l:List Nat} {m:Nat} (hm:m≤1000):∃ r,em l ((m:Nat):Int)=some r∧r.length=m∧∀ k,k < m→r.getD k 0=l.getD k 0:=by
  unfold em
  rw [cK (by omega) (by omega) (by omega) (by omega),bS,Int.toNat_natCast]
  refine ⟨_,rfl,by unfold rb;simp;omega,fun k hk=>?_⟩
  unfold rb
  rw [List.length_replicate]
  by_cases g:k < l.length
  · rw [dN (by simp;omega),List.getD_eq_getElem?_getD,List.getElem?_take,if_pos (by omega),← List.getD_eq_getElem?_getD]
  · rw [pe (l:=l) (by omega),List.getD_eq_getElem?_getD,List.getElem?_append_right (by simp;omega),List.getElem?_drop]
    have:(min l.length m+(k - (l.take (min l.length m)).length)) < m:=by simp;omega
    rw [List.getElem?_replicate,if_pos this];rfl
end Pu

/- Plain laws of scenarios: what the reference calls valid the program calls valid, and the networks stand. -/
set_option linter.unusedVariables false
namespace Pu
open Gw Gl Sp
structure Va (w:ab) (n t:Nat):Prop extends Sc w n t where
  ord:∀ i,0 < i→i < w.af.length→w.af.getD (i - 1) 0 < w.af.getD i 0
  tl:w.ax.length=n
  tb:∀ i,i < n→∀ j,j < (w.ax.getD i []).length→(w.ax.getD i []).getD j 0 < w.S.P
  ts:∀ i,i < n→(w.ax.getD i []).length≤1000
  full:∀ x ∈ w.aa,0≤x.Round∧0≤x.To∧x.To≤n∧1≤x.Kind∧x.Kind≤4
theorem A3 {p:Nat} {l:List Int} {j:Nat} {x:Int} (hl:l[j]?=some x) (hx:5≤x∧x≤61):fp p l j=some (if p=2 ^ x.toNat - 1 then .fin x else .go ()):=by
  unfold fp
  obtain ⟨q,rfl⟩:∃ q:Nat,x=q:=⟨x.toNat,by omega⟩
  have hq:q≤61:=by omega
  have hu:qP ((q:Nat):Int)=q:=by unfold qP;omega
  have h2:2 ^ q≤2 ^ 61:=Nat.pow_le_pow_right (by decide) hq
  have h3:1≤2 ^ q:=Nat.one_le_two_pow
  rw [hl,bS,hu,bS,vd (by omega),bS,Nat.one_mul,Nat.mod_eq_of_lt (by omega),tL h3 (by omega),bS,Int.toNat_natCast]
  by_cases g:p=2 ^ q - 1
  · rw [zz g,cT,if_pos g]
  · rw [Kn g,cF,if_neg g]
theorem Hq {p:Nat} {x:Int} (h:x ∈ ([5,7,13,17,19,31,61]:List Int)) (e:p=2 ^ x.toNat - 1):fW p:=by
  simp only [List.mem_cons,List.not_mem_nil,or_false] at h
  unfold fW
  rcases h with rfl | rfl | rfl | rfl | rfl | rfl | rfl <;> simp at e <;> omega
theorem Hi {p:Nat}:∃ b,fZ p=some b∧(b=true→fW p):=by
  unfold fZ jf
  have he:lb=some [5,7,13,17,19,31,61]:=rfl
  rw [he,bS]
  obtain ⟨o,e,ho⟩:=dM (body:=fun k1 (st:Unit)=>fp p [5,7,13,17,19,31,61] k1) (fun _ _=>True) (fun r=>fW p) (rem:=([5,7,13,17,19,31,61]:List Int).length - 0) (k:=0) (s:=()) trivial (fun j _ _ hj _=>by
    have hj':j < 7:=by simpa using hj
    obtain ⟨x,hx,hm⟩:∃ x,([5,7,13,17,19,31,61]:List Int)[j]?=some x∧x ∈ ([5,7,13,17,19,31,61]:List Int):=⟨_,List.getElem?_eq_getElem (by simpa using hj'),List.getElem_mem _⟩
    have hb:5≤x∧x≤61:=by
      simp only [List.mem_cons,List.not_mem_nil,or_false] at hm
      rcases hm with rfl | rfl | rfl | rfl | rfl | rfl | rfl <;> decide
    rw [A3 hx hb]
    refine ⟨_,rfl,?_⟩
    split
    · next g=>exact Hq hm g
    · trivial)
  rw [e]
  simp only [bS]
  cases o with
  | fin r=>rw [oF];simp only [bS];exact ⟨_,rfl,fun _=>ho⟩
  | go s=>rw [oG];simp only [bS];exact ⟨_,rfl,fun h=>by simp at h⟩
theorem GU {p:Nat} (hp:fW p):mt p=some true:=by
  rcases hp with rfl | rfl | rfl | rfl | rfl | rfl | rfl <;> decide +kernel
structure HM (s:aH) (n t:Nat):Prop where
  sup:fW s.P
  N:s.N=n
  T:s.T=t
  n4:4≤n
  n13:n≤13
  t1:1≤t
  t3:3*t < n
theorem xb {s:aH}:∃ b,gz s=some b∧(b=true→∃ n t,HM s n t):=by
  unfold gz
  obtain ⟨b,e,hb⟩:=Hi (p:=s.P)
  rw [e,bS]
  cases b with
  | false=>rw [cF];exact ⟨_,rfl,fun h=>by cases h⟩
  | true =>
    rw [cT]
    have hp:=hb rfl
    by_cases h1:s.N ≥ 4
    · rw [dT h1,cT]
      by_cases h2:s.N≤13
      · rw [dT h2,cT,bS]
        by_cases h3:((qP s.N:Nat):Int) < ((s.P:Nat):Int)
        · rw [dT h3,cT]
          by_cases h4:s.T ≥ 1
          · rw [dT h4,cT]
            by_cases h5:s.T < s.N
            · rw [dT h5,cT,eK (by omega) (by omega),bS]
              refine ⟨_,rfl,fun h=>?_⟩
              have h6:=of_decide_eq_true h
              exact ⟨s.N.toNat,s.T.toNat,hp,by omega,by omega,by omega,by omega,by omega,by omega⟩
            · rw [dF h5,cF];exact ⟨_,rfl,fun h=>by cases h⟩
          · rw [dF h4,cF];exact ⟨_,rfl,fun h=>by cases h⟩
        · rw [dF h3,cF];exact ⟨_,rfl,fun h=>by cases h⟩
      · rw [dF h2,cF];exact ⟨_,rfl,fun h=>by cases h⟩
    · rw [dF h1,cF];exact ⟨_,rfl,fun h=>by cases h⟩
theorem Bv {s:aH} {n t:Nat} (h:HM s n t):mH s=some true:=by
  have h1:=h.n4;have h2:=h.n13;have h3:=h.t1;have h4:=h.t3;have h5:=h.sup.lt
  unfold mH
  have hu:qP ((n:Nat):Int)=n:=by unfold qP;omega
  rw [GU h.sup,bS,cT,h.N,h.T,dT (by omega),cT,dT (by omega),cT,bS,hu,dT (by omega),cT,dT (by omega),cT,dT (by omega),cT,eK (by omega) (by omega),bS,dT (by omega)]
theorem E8 {s:aH} {l:List Int}:∃ b,dS s l=some b∧(b=true→∃ n t,HM s n t∧l.length≤t∧(∀ x ∈ l,1≤x∧x≤n)∧∀ i,0 < i→i < l.length→l.getD (i - 1) 0 < l.getD i 0):=by
  unfold dS
  obtain ⟨b,e,hb⟩:=xb (s:=s)
  rw [e,bS]
  cases b with
  | false=>rw [nF,cT,bS,cT];exact ⟨_,rfl,fun h=>by cases h⟩
  | true =>
    obtain ⟨n,t,par⟩:=hb rfl
    have hT:=par.T;have hN:=par.N;have h13:=par.n13;have h3:=par.t3
    rw [nT,cF,bS]
    by_cases g:l.length≤t
    · rw [dF (by omega),cF,Nat.sub_zero]
      obtain ⟨o,e,ho⟩:=dM (body:=fun k1 (st:Unit)=>fc s l k1) (fun k _=>∀ i,i < k→(1≤l.getD i 0∧l.getD i 0≤n)∧(0 < i→l.getD (i - 1) 0 < l.getD i 0)) (fun r=>r=false) (rem:=l.length) (k:=0) (s:=()) (fun i hi=>by omega) (fun k _ _ hk h=>by
        have hkl:k < l.length:=by omega
        unfold fc
        rw [ix 0 hkl,bS,hN]
        by_cases c1:l.getD k 0 < 1
        · rw [dT c1,cT];exact ⟨_,rfl,rfl⟩
        · rw [dF c1,cF]
          by_cases c2:l.getD k 0 > n
          · rw [dT c2,cT];exact ⟨_,rfl,rfl⟩
          · rw [dF c2,cF]
            by_cases c3:((k:Nat):Int) > 0
            · have e1:(((k:Nat):Int) - 1).toNat=k - 1:=by omega
              rw [dT c3,cT,cy (by omega) (by omega),bS,aT 0 (by omega) (by omega),bS,e1]
              by_cases c4:l.getD k 0≤l.getD (k - 1) 0
              · rw [dT c4,cT];exact ⟨_,rfl,rfl⟩
              · rw [dF c4,cF]
                refine ⟨_,rfl,fun i hi=>?_⟩
                by_cases g:i=k
                · subst g;exact ⟨⟨by omega,by omega⟩,fun _=>by omega⟩
                · exact h i (by omega)
            · rw [dF c3,cF]
              refine ⟨_,rfl,fun i hi=>?_⟩
              by_cases g:i=k
              · subst g;exact ⟨⟨by omega,by omega⟩,fun _=>by omega⟩
              · exact h i (by omega))
      rw [e,bS]
      cases o with
      | fin r=>rw [oF];exact ⟨_,rfl,fun h=>by rw [ho] at h;cases h⟩
      | go _ =>
        rw [oG]
        rw [Nat.zero_add] at ho
        refine ⟨_,rfl,fun _=>⟨n,t,par,g,fun x hx=>?_,fun i h1 h2=>(ho i h2).2 h1⟩⟩
        obtain ⟨i,hi,rfl⟩:=List.getElem_of_mem hx
        have:=(ho i hi).1
        rw [List.getD_eq_getElem?_getD,List.getElem?_eq_getElem hi] at this
        exact this
    · rw [dT (by omega),cT];exact ⟨_,rfl,fun h=>by cases h⟩
theorem EN {s:aH} {l:List Int} {n t:Nat} (par:HM s n t) (hl:l.length≤t) (hr:∀ x ∈ l,1≤x∧x≤n) (ho:∀ i,0 < i→i < l.length→l.getD (i - 1) 0 < l.getD i 0):gF s l=some true:=by
  have hT:=par.T;have hN:=par.N;have h13:=par.n13;have h3:=par.t3
  unfold gF
  rw [Bv par,bS,nT,cF,bS,hT,dF (by omega),cF,Nat.sub_zero]
  obtain ⟨o,e,hq⟩:=dM (body:=fun k1 (st:Unit)=>hZ s l k1) (fun _ _=>True) (fun _=>False) (rem:=l.length) (k:=0) (s:=()) trivial (fun k _ _ hk _=>by
    have hkl:k < l.length:=by omega
    have hm:l.getD k 0 ∈ l:=by rw [List.getD_eq_getElem?_getD,List.getElem?_eq_getElem hkl];exact List.getElem_mem hkl
    have hx:=hr _ hm
    unfold hZ
    rw [ix 0 hkl,bS,hN,dF (by omega),cF,dF (by omega),cF]
    by_cases c3:((k:Nat):Int) > 0
    · have e1:(((k:Nat):Int) - 1).toNat=k - 1:=by omega
      have:=ho k (by omega) hkl
      rw [dT c3,cT,cy (by omega) (by omega),bS,aT 0 (by omega) (by omega),bS,e1,dF (by omega),cF]
      exact ⟨_,rfl,trivial⟩
    · rw [dF c3,cF];exact ⟨_,rfl,trivial⟩)
  rw [e,bS]
  cases o with
  | fin r=>exact hq.elim
  | go _=>rw [oG]
/-- a valid deviation -/
def Dv (s:aH) (x:aM):Prop:=0≤x.Round∧0≤x.At∧0≤x.bi∧1≤x.From∧x.From≤s.N∧0≤x.To∧x.To≤s.N∧1≤x.Kind∧x.Kind≤4∧0≤x.Of∧x.Of≤s.N∧(x.Kind=3→1≤x.Of)
theorem bC {c:Prop} [Decidable c] {X:Option Bool} {Q:Prop} (h:c→∃ b,X=some b∧(b=true→Q)):∃ b,(bif decide c then X else some false)=some b∧(b=true→Q):=by
  by_cases g:c
  · rw [dT g,cT];exact h g
  · rw [dF g,cF];exact ⟨_,rfl,fun h=>by cases h⟩
theorem Hh {s:aH} {x:aM}:∃ b,f9 s x=some b∧(b=true→Dv s x):=by
  unfold f9
  refine bC fun h1=>bC fun h2=>bC fun h3=>bC fun h4=>bC fun h5=>bC fun h6=>bC fun h7=>bC fun h8=>bC fun h9=>bC fun h10=>bC fun h11=>?_
  by_cases k:x.Kind=3
  · rw [qF k,cF]
    exact ⟨_,rfl,fun h=>⟨h1,h2,h3,h4,h5,h6,h7,h8,h9,h10,h11,fun _=>of_decide_eq_true h⟩⟩
  · rw [qT k,cT]
    exact ⟨_,rfl,fun h=>⟨h1,h2,h3,h4,h5,h6,h7,h8,h9,h10,h11,fun e=>absurd e k⟩⟩
theorem GT {s:aH} {x:aM} (h:Dv s x):pp s x=some true:=by
  obtain ⟨h1,h2,h3,h4,h5,h6,h7,h8,h9,h10,h11,h12⟩:=h
  unfold pp
  by_cases k:x.Kind=3
  · have:=h12 k
    rw [eT k,cT,bS,dT h1,cT,dT h2,cT,dT h3,cT,dT h4,cT,dT h5,cT,dT h6,cT,dT h7,cT,dT h8,cT,dT h9,cT,dT (by omega),cT,dT h11]
  · rw [eF k,cF,bS,dT h1,cT,dT h2,cT,dT h3,cT,dT h4,cT,dT h5,cT,dT h6,cT,dT h7,cT,dT h8,cT,dT h9,cT,dT (by omega),cT,dT h11]
theorem B8 {p:Nat} {l:List Nat}:∃ b,iS p l=some b∧(b=true→Lt p l):=by
  unfold iS
  rw [Nat.sub_zero]
  obtain ⟨o,e,ho⟩:=dM (body:=fun k1 (st:Unit)=>jg p l k1) (fun k _=>∀ i,i < k→l.getD i 0 < p) (fun r=>r=false) (rem:=l.length) (k:=0) (s:=()) (fun i hi=>by omega) (fun k _ _ hk h=>by
    unfold jg
    rw [ix 0 (by omega),bS]
    by_cases g:l.getD k 0 < p
    · rw [dF (by omega),cF]
      refine ⟨_,rfl,fun i hi=>?_⟩
      by_cases e:i=k
      · subst e;exact g
      · exact h i (by omega)
    · rw [dT (by omega),cT];exact ⟨_,rfl,rfl⟩)
  rw [e,bS]
  cases o with
  | fin r=>rw [oF];exact ⟨_,rfl,fun h=>by rw [ho] at h;cases h⟩
  | go _=>rw [oG];exact ⟨_,rfl,fun _ i hi=>ho i (by omega)⟩
theorem E9 {w:ab}:∃ b,cL w=some b∧(b=true→∃ n t,HM w.S n t∧w.af.length≤t∧(∀ x ∈ w.af,1≤x∧x≤n)∧(∀ i,0 < i→i < w.af.length→w.af.getD (i - 1) 0 < w.af.getD i 0)∧w.ax.length=n∧(∀ i,i < w.aa.length→Dv w.S (w.aa.getD i default))∧∀ i,i < w.ax.length→Lt w.S.P (w.ax.getD i [])):=by
  unfold cL
  obtain ⟨b,e,hb⟩:=xb (s:=w.S)
  rw [e,bS]
  cases b with
  | false=>rw [nF,cT,bS,cT];exact ⟨_,rfl,fun h=>by cases h⟩
  | true =>
    rw [nT,cF]
    obtain ⟨b,e,hb⟩:=E8 (s:=w.S) (l:=w.af)
    rw [e,bS]
    cases b with
    | false=>rw [nF,cT,bS,cT];exact ⟨_,rfl,fun h=>by cases h⟩
    | true =>
      obtain ⟨n,t,par,c1,c2,c3⟩:=hb rfl
      rw [nT,cF,bS]
      by_cases g:w.ax.length=n
      · rw [qF (by rw [g,par.N]),cF,Nat.sub_zero,Nat.sub_zero]
        obtain ⟨o,e,ho⟩:=dM (body:=fun k1 (st:Unit)=>fv w k1) (fun k _=>∀ i,i < k→Dv w.S (w.aa.getD i default)) (fun r=>r=false) (rem:=w.aa.length) (k:=0) (s:=()) (fun i hi=>by omega) (fun k _ _ hk h=>by
          unfold fv
          rw [ix default (by omega),bS]
          obtain ⟨b,e,hb⟩:=Hh (s:=w.S) (x:=w.aa.getD k default)
          rw [e,bS]
          cases b with
          | false=>rw [nF,cT];exact ⟨_,rfl,rfl⟩
          | true =>
            rw [nT,cF]
            refine ⟨_,rfl,fun i hi=>?_⟩
            by_cases e:i=k
            · subst e;exact hb rfl
            · exact h i (by omega))
        rw [e,bS]
        cases o with
        | fin r=>rw [oF];exact ⟨_,rfl,fun h=>by rw [ho] at h;cases h⟩
        | go _ =>
          rw [oG]
          obtain ⟨o,e,hq⟩:=dM (body:=fun k1 (st:Unit)=>fw w k1) (fun k _=>∀ i,i < k→Lt w.S.P (w.ax.getD i [])) (fun r=>r=false) (rem:=w.ax.length) (k:=0) (s:=()) (fun i hi=>by omega) (fun k _ _ hk h=>by
            unfold fw
            rw [ix [] (by omega),bS]
            obtain ⟨b,e,hb⟩:=B8 (p:=w.S.P) (l:=w.ax.getD k [])
            rw [e,bS]
            cases b with
            | false=>rw [nF,cT];exact ⟨_,rfl,rfl⟩
            | true =>
              rw [nT,cF]
              refine ⟨_,rfl,fun i hi=>?_⟩
              by_cases e:i=k
              · subst e;exact hb rfl
              · exact h i (by omega))
          rw [e,bS]
          cases o with
          | fin r=>rw [oF];exact ⟨_,rfl,fun h=>by rw [hq] at h;cases h⟩
          | go _=>rw [oG];exact ⟨_,rfl,fun _=>⟨n,t,par,c1,c2,c3,g,fun i hi=>ho i (by omega),fun i hi=>hq i (by omega)⟩⟩
      · rw [qT (by rw [par.N];omega),cT];exact ⟨_,rfl,fun h=>by cases h⟩
/-- a fair scenario -/
theorem Da {w:ab} {lies words:Int} (hK:∀ x ∈ w.aa,x.K < 18446744073709551616) (hl:lies≤40) (hw:words≤1000):∃ b,jr w lies words=some b∧(b=true→∃ n t,Va w n t∧cL w=some true):=by
  unfold jr
  by_cases g1:((w.aa.length:Nat):Int) > lies
  · rw [dT g1,cT,bS,cT];exact ⟨_,rfl,fun h=>by cases h⟩
  · rw [dF g1,cF]
    by_cases g2:((w.ax.length:Nat):Int) > 13
    · rw [dT g2,cT,bS,cT];exact ⟨_,rfl,fun h=>by cases h⟩
    · rw [dF g2,cF]
      by_cases g3:((w.af.length:Nat):Int) > 13
      · rw [dT g3,bS,cT];exact ⟨_,rfl,fun h=>by cases h⟩
      · rw [dF g3,bS,cF,Nat.sub_zero]
        obtain ⟨o,e,ho⟩:=dM (body:=fun k1 (st:Unit)=>jI w words k1) (fun k _=>∀ i,i < k→(((w.ax.getD i []).length:Nat):Int)≤words) (fun r=>r=false) (rem:=w.ax.length) (k:=0) (s:=()) (fun i hi=>by omega) (fun k _ _ hk h=>by
          unfold jI
          rw [ix [] (by omega),bS]
          by_cases g:(((w.ax.getD k []).length:Nat):Int) > words
          · rw [dT g,cT];exact ⟨_,rfl,rfl⟩
          · rw [dF g,cF]
            refine ⟨_,rfl,fun i hi=>?_⟩
            by_cases e:i=k
            · subst e;omega
            · exact h i (by omega))
        rw [e,bS]
        cases o with
        | fin r=>rw [oF];exact ⟨_,rfl,fun h=>by rw [ho] at h;cases h⟩
        | go _ =>
          rw [oG]
          obtain ⟨b,eb,hb⟩:=E9 (w:=w)
          rw [eb,bS]
          refine ⟨_,rfl,fun hbt=>?_⟩
          subst hbt
          obtain ⟨n,t,par,c1,c2,c3,c4,c5,c6⟩:=hb rfl
          have hd:∀ x ∈ w.aa,Dv w.S x:=fun x hx=>by
            obtain ⟨i,hi,rfl⟩:=List.getElem_of_mem hx
            have:=c5 i hi
            rw [List.getD_eq_getElem?_getD,List.getElem?_eq_getElem hi] at this
            exact this
          refine ⟨n,t,{ sup:=par.sup,N:=par.N,T:=par.T,n4:=par.n4,n13:=par.n13,t1:=par.t1,t3:=par.t3,cl:=c1,cr:=c2,dl:=by omega,dv:=fun x hx=>?_,ord:=c3,tl:=c4,tb:=fun i hi=>c6 i (by omega),ts:=fun i hi=>by have:=ho i (by omega);omega,full:=fun x hx=>?_ },rfl⟩
          · obtain ⟨d1,d2,d3,d4,d5,d6,d7,d8,d9,d10,d11,d12⟩:=hd x hx
            rw [par.N] at d5 d11
            exact ⟨d4,d5,d2,d3,d10,d11,d12,hK x hx⟩
          · obtain ⟨d1,d2,d3,d4,d5,d6,d7,d8,d9,d10,d11,d12⟩:=hd x hx
            rw [par.N] at d7
            exact ⟨d1,d6,d7,d8,d9⟩
theorem Va.par {w:ab} {n t:Nat} (v:Va w n t):HM w.S n t:=⟨v.sup,v.N,v.T,v.n4,v.n13,v.t1,v.t3⟩
end Pu

/- Plain laws of the reference's small functions, and of opening shares. -/
set_option linter.unusedVariables false
namespace Pu
open Gw Gl Sp Lean.Grind
theorem Ah {p a b:Nat} (hp:fW p) (ha:a < p) (hb:b < 18446744073709551616):lH p a b=some (a*b % p):=by
  have hl:=hp.lt
  unfold lH
  obtain ⟨r,e,hr⟩:=jU (step:=fun (st:Nat × Nat × Nat)=>ip p st.1 st.2.1 st.2.2) (fun st=>st.1 < p∧st.2.1 < 18446744073709551616∧st.2.2 < p∧(st.2.2+st.1*st.2.1) % p=a*b % p) (fun r=>r=a*b % p) (fun st=>st.2.1) (fun st ⟨h1,h2,h3,h4⟩=>by
    obtain ⟨x,m,o⟩:=st
    replace h1:x < p:=h1
    replace h2:m < 18446744073709551616:=h2
    replace h3:o < p:=h3
    replace h4:(o+x*m) % p=a*b % p:=h4
    show ∃ q,ip p x m o=some q∧_
    unfold ip
    by_cases c:m=0
    · subst c
      rw [dF (by omega),cF]
      refine ⟨_,rfl,?_⟩
      show o=_
      rw [← h4,Nat.mul_zero,Nat.add_zero,Nat.mod_eq_of_lt h3]
    · have r2:∀ y,uR y 2=some (y % 2):=fun y=>by unfold uR;rw [if_neg (by decide)]
      have rp:∀ y,uR y p=some (y % p):=fun y=>by unfold uR;rw [if_neg (by omega)]
      have d2:C5 m 2=some (m / 2):=by unfold C5;rw [if_neg (by decide),Nat.mod_eq_of_lt (by omega)]
      have a1:lS o x=o+x:=Nat.mod_eq_of_lt (by omega)
      have a2:lS x x=x+x:=Nat.mod_eq_of_lt (by omega)
      have hx:(x+x)*(m / 2)=x*(2*(m / 2)):=by rw [← Nat.two_mul,Nat.mul_assoc,Nat.mul_left_comm,Nat.mul_left_comm]
      rw [dT (by omega),cT,r2,bS]
      by_cases g:m % 2=1
      · rw [eT (by omega),cT,a1,bS,rp,bS,a2,bS,rp,bS,d2,bS]
        refine ⟨_,rfl,⟨Nat.mod_lt _ hp.pos,by show m / 2 < _;omega,Nat.mod_lt _ hp.pos,?_⟩,by show m / 2 < m;omega⟩
        show ((o+x) % p+(x+x) % p*(m / 2)) % p=_
        rw [← h4,Nat.add_mod,Nat.mul_mod,Nat.mod_mod,Nat.mod_mod,← Nat.mul_mod,← Nat.add_mod,hx]
        congr 1
        have:m=1+2*(m / 2):=by omega
        conv=>rhs;rw [this,Nat.mul_add,Nat.mul_one]
        omega
      · rw [eF (by omega),cF,a2,bS,rp,bS,d2,bS]
        refine ⟨_,rfl,⟨Nat.mod_lt _ hp.pos,by show m / 2 < _;omega,h3,?_⟩,by show m / 2 < m;omega⟩
        show (o+(x+x) % p*(m / 2)) % p=_
        rw [← h4,Nat.add_mod,Nat.mul_mod,Nat.mod_mod,← Nat.mul_mod,← Nat.add_mod,hx]
        congr 3
        omega)
    (s:=(a,b,0)) ⟨ha,hb,hp.pos,by simp⟩ hb
  rw [e,bS,hr]
theorem Af {p a b:Nat} (hp:fW p) (h:a+b < 18446744073709551616):lG p a b=some ((a+b) % p):=by
  have hl:=hp.lt
  unfold lG
  have a1:lS a b=a+b:=Nat.mod_eq_of_lt h
  rw [a1,bS]
  unfold uR
  rw [if_neg (by omega),bS]
section
variable {p:Nat} [NeZero p]
end
theorem zU {w:ab} {i:Int}:ir w i=some (decide (i ∉ w.af)):=by
  unfold ir
  rw [Nat.sub_zero]
  obtain ⟨o,e,ho⟩:=dM (body:=fun k1 (st:Unit)=>iT w i k1) (fun k _=>∀ j,j < k→w.af.getD j 0≠i) (fun r=>r=false∧i ∈ w.af) (rem:=w.af.length) (k:=0) (s:=()) (fun i hi=>by omega) (fun k _ _ hk h=>by
    have hkl:k < w.af.length:=by omega
    unfold iT
    rw [ix 0 hkl,bS]
    by_cases g:w.af.getD k 0=i
    · rw [eT g,cT]
      refine ⟨_,rfl,rfl,?_⟩
      rw [← g,List.getD_eq_getElem?_getD,List.getElem?_eq_getElem hkl];exact List.getElem_mem hkl
    · rw [eF g,cF]
      refine ⟨_,rfl,fun j hj=>?_⟩
      by_cases e:j=k
      · subst e;exact g
      · exact h j (by omega))
  rw [e,bS]
  cases o with
  | fin r=>rw [oF,ho.1,dF (fun h=>h ho.2)]
  | go _ =>
    rw [oG,dT]
    intro hv
    obtain ⟨j,hj,rfl⟩:=List.getElem_of_mem hv
    apply ho j (by omega)
    rw [List.getD_eq_getElem?_getD,List.getElem?_eq_getElem hj];rfl
theorem vV {l1:List Int}:∀ {l2:List Int},l1.Nodup→(∀ x ∈ l1,x ∈ l2)→l1.length≤l2.length:=by
  induction l1 with
  | nil=>intro l2 _ _;simp
  | cons x t ih =>
    intro l2 hn hs
    have hx:x ∈ l2:=hs x (by simp)
    have hl2:=(List.perm_cons_erase hx).length_eq
    rw [List.nodup_cons] at hn
    have:=ih (l2:=l2.erase x) hn.2 (fun y hy=>(List.mem_erase_of_ne (by intro e;subst e;exact hn.1 hy)).2 (hs y (by simp [hy])))
    simp at hl2 ⊢;omega
end Pu
