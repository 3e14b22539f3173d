/- Plain laws of the field's functions. -/
import Derived.Test.YtkmbblnepjofaaaGreatDoorX5p
import Derived.Test.YtkmbblnepjofaaaGreatDoorWl
import Derived.Test.YtkmbblnepjofaaaGreatDoorSp
set_option linter.unusedVariables false
namespace Pu
open Gw Gl Sp
theorem zz {a b:Nat} (h:a=b):(((a:Nat):Int) == ((b:Nat):Int))=true:=eT (by rw [h])
theorem Mi {a b:Nat} (h:a≠b):(((a:Nat):Int) == ((b:Nat):Int))=false:=eF (by omega)
theorem Ez {p:Nat} (hp:fM p):rz p=some (pL p):=by
  rcases hp with rfl | rfl | rfl | rfl | rfl | rfl | rfl <;> decide +kernel
theorem wT {a b:Nat} (ha:a < 18446744073709551616) (hb:b < 18446744073709551616):uE a b=a &&& b:=by
  unfold uE;rw [Nat.mod_eq_of_lt ha,Nat.mod_eq_of_lt hb]
theorem sg {a q:Nat} (hq:q≤64):sV a ((q:Nat):Int)=some (a / 2 ^ q):=by
  unfold sV
  rw [if_neg (by omega)]
  simp [Nat.min_eq_left hq]
theorem wI {a q:Nat} (hq:q≤64):zT a ((q:Nat):Int)=some (a*2 ^ q % 18446744073709551616):=by
  unfold zT
  rw [if_neg (by omega)]
  simp [Nat.min_eq_left hq]
theorem u5 {a b:Nat} (h:b≤a) (ha:a < 18446744073709551616):wj a b=a - b:=by unfold wj;omega
theorem BC {p h l:Nat} (hp:fM p) (hh:h < 18446744073709551616) (hl:l < 18446744073709551616) (c:h≠0 ∨ p < l):gM p (pL p) h l=some (.go (nh p h l,nl p h l)):=by
  have hq:=hp.q
  have hpl:=hp.lt
  unfold gM
  have hx:(bif ((h:Nat):Int) != (0:Int) then some true else some (decide (((l:Nat):Int) > ((p:Nat):Int))))=some true:=by
    by_cases h0:h=0
    · subst h0
      rw [qF (by simp),cF,dT (by omega)]
    · rw [qT (by omega),cT]
  rw [hx]
  simp only [bS,cT]
  rw [sg (by omega),bS,u5 (by omega) (by omega),wI (by omega)]
  simp only [bS]
  rw [sg (by omega)]
  simp only [bS]
  have e1:uE l p=fm p l:=by rw [wT hl (by omega),Im hp hl]
  have e2:Kx (l / 2 ^ pL p) (h*2 ^ (64 - pL p) % 18446744073709551616)=fl p h l:=by
    unfold Kx
    rw [Nat.mod_eq_of_lt (Nat.lt_of_le_of_lt (Nat.div_le_self ..) hl),Nat.mod_mod]
    exact Ky hp hl
  rw [e1,e2]
  have e3:ng (h / 2 ^ pL p) (EW (fl p h l) (fm p l))=nh p h l:=by
    have:=Kr (p:=p) hp hh hl
    show (fh p h+nc p h l) % _=_
    exact Nat.mod_eq_of_lt this
  rw [e3];rfl
theorem CY {p h l:Nat} (c:¬ (h≠0 ∨ p < l)):gM p (pL p) h l=some (.fin l):=by
  unfold gM
  have h0:h=0:=by omega
  subst h0
  rw [qF (by simp),cF,dF (by omega)]
  simp only [bS,cF]
theorem xp {p h l:Nat} (hp:fM p) (hh:h < 4611686018427387904) (hl:l < 18446744073709551616):mY p h l=some ((h*18446744073709551616+l) % p):=by
  unfold mY
  rw [Ez hp,bS]
  obtain ⟨r,e,hr⟩:=iR (step:=fun (st:Nat × Nat)=>gM p (pL p) st.1 st.2)
    (fun st=>st.1 < 4611686018427387904∧st.2 < 18446744073709551616∧(st.1*18446744073709551616+st.2) % p=(h*18446744073709551616+l) % p)
    (fun r=>r≤p∧r % p=(h*18446744073709551616+l) % p) (fun st=>Io st.1 st.2) (fun st ⟨h1,h2,h3⟩=>by
      by_cases c:st.1≠0 ∨ p < st.2
      · refine ⟨_,BC hp (by omega) h2 c,⟨?_,HR,?_⟩,Fb hp h1 h2 c⟩
        · by_cases h0:st.1=0
          · rw [h0]
            show nh p 0 st.2 < _
            rw [(Dn hp h2 (by omega)).1];omega
          · have:=Dl hp (by omega) h2 h0
            show nh p st.1 st.2 < _
            omega
        · exact CZ hp h3
      · refine ⟨_,CY c,?_,?_⟩
        · show st.2≤p;omega
        · show st.2 % p=_
          rw [← h3]
          have:st.1=0:=by omega
          rw [this];simp) (s:=(h,l)) ⟨hh,hl,rfl⟩ (Ip hh hl)
  rw [e,bS]
  by_cases g:r=p
  · subst g
    rw [zz rfl,cT,← hr.2,Nat.mod_self]
  · rw [Mi g,cF,← hr.2,Nat.mod_eq_of_lt (by omega)]
theorem Jb {a b:Nat} (ha:a < 18446744073709551616) (hb:b < 18446744073709551616):lq a b=some (a*b / 18446744073709551616,a*b % 18446744073709551616):=by
  unfold lq
  have h32:∀ x,x < 18446744073709551616→uE x 4294967295=x % 4294967296:=fun x hx=>by
    rw [wT hx (by omega)];exact Nat.and_two_pow_sub_one_eq_mod x 32
  have s32:∀ x,sV x (32:Int)=some (x / 4294967296):=fun x=>sg (q:=32) (by omega)
  have l1:∀ x y,ng x y < 18446744073709551616:=fun x y=>Nat.mod_lt _ (by decide)
  simp only [bS,s32,h32 a ha,h32 b hb,h32 _ (l1 _ _)]
  have m:=Kq a b
  simp only at m
  have ha1:a / 4294967296 < 4294967296:=by omega
  have hb1:b / 4294967296 < 4294967296:=by omega
  have ha0:a % 4294967296 < 4294967296:=Nat.mod_lt _ (by decide)
  have hb0:b % 4294967296 < 4294967296:=Nat.mod_lt _ (by decide)
  have c00:=AQ ha0 hb0
  have c10:=AQ ha1 hb0
  have c01:=AQ ha0 hb1
  have c11:=AQ ha1 hb1
  have hi:=Jc ha hb
  have k1:uP (a % 4294967296) (b % 4294967296)=a % 4294967296*(b % 4294967296):=Nat.mod_eq_of_lt (by omega)
  have k2:uP (a / 4294967296) (b % 4294967296)=a / 4294967296*(b % 4294967296):=Nat.mod_eq_of_lt (by omega)
  have k3:uP (a % 4294967296) (b / 4294967296)=a % 4294967296*(b / 4294967296):=Nat.mod_eq_of_lt (by omega)
  have k4:uP (a / 4294967296) (b / 4294967296)=a / 4294967296*(b / 4294967296):=Nat.mod_eq_of_lt (by omega)
  rw [k1,k2,k3,k4]
  generalize a % 4294967296*(b % 4294967296)=A at *
  generalize a / 4294967296*(b % 4294967296)=B at *
  generalize a % 4294967296*(b / 4294967296)=C at *
  generalize a / 4294967296*(b / 4294967296)=D at *
  have k5:ng B (A / 4294967296)=B+A / 4294967296:=Nat.mod_eq_of_lt (by omega)
  rw [k5]
  have k6:ng ((B+A / 4294967296) % 4294967296) C=(B+A / 4294967296) % 4294967296+C:=Nat.mod_eq_of_lt (by omega)
  rw [k6]
  have k7:ng D ((B+A / 4294967296) / 4294967296)=D+(B+A / 4294967296) / 4294967296:=Nat.mod_eq_of_lt (by omega)
  rw [k7]
  have k8:ng (D+(B+A / 4294967296) / 4294967296) (((B+A / 4294967296) % 4294967296+C) / 4294967296)=D+(B+A / 4294967296) / 4294967296+((B+A / 4294967296) % 4294967296+C) / 4294967296:=Nat.mod_eq_of_lt (by omega)
  rw [k8,m]
  rfl
theorem jI {p a b:Nat} (hp:fM p) (ha:a < p) (hb:b < p):dC p a b=some (a*b % p):=by
  have hl:=hp.lt
  unfold dC
  rw [Jb (by omega) (by omega),bS]
  have h1:a*b≤2305843009213693951*2305843009213693951:=Nat.mul_le_mul (by omega) (by omega)
  have h2:a*b / 18446744073709551616 < 4611686018427387904:=by omega
  have h3:a*b % 18446744073709551616 < 18446744073709551616:=Nat.mod_lt _ (by decide)
  rw [xp hp h2 h3]
  simp only [bS]
  congr 2
  have:=Nat.div_add_mod (a*b) 18446744073709551616
  rw [Nat.mul_comm] at this
  exact this
theorem sL {p a b:Nat} (hp:fM p) (h:a+b < 18446744073709551616):jD p a b=some ((a+b) % p):=by
  unfold jD
  have:ng a b=a+b:=Nat.mod_eq_of_lt h
  rw [this]
  simp only [bS]
  rw [xp hp (by decide) h]
  simp only [bS,Nat.zero_mul,Nat.zero_add]
theorem BZ {p a:Nat} (hp:fM p) (h:a < 18446744073709551616):oa p a=some (a % p):=by
  unfold oa
  rw [xp hp (by decide) h]
  simp only [bS,Nat.zero_mul,Nat.zero_add]
theorem zK {p a:Nat} (hp:fM p) (h:a < p):mX p a=some ((p - a) % p):=by
  have hl:=hp.lt
  unfold mX
  by_cases g:a=0
  · subst g;rw [eT (by simp),cT];simp
  · rw [eF (by omega),cF,u5 (by omega) (by omega)]
    simp only [bS]
    rw [Nat.mod_eq_of_lt (by omega)]
theorem vO {p a b:Nat} (hp:fM p) (ha:a < p) (hb:b < p):lD p a b=some ((a+(p - b) % p) % p):=by
  have hl:=hp.lt
  have:=Nat.mod_lt (p - b) hp.pos
  unfold lD
  rw [zK hp hb,bS,sL hp (by omega),bS]
theorem Jj {p a n:Nat} (hp:fM p) (ha:a < p) (hn:n < 18446744073709551616):rX p a n=some (a ^ n % p):=by
  have hl:=hp.lt
  unfold rX
  obtain ⟨r,e,hr⟩:=iR (step:=fun (st:Nat × Nat × Nat)=>lS p st.1 st.2.1 st.2.2)
    (fun st=>st.1 < p∧st.2.1 < 18446744073709551616∧st.2.2 < p∧st.2.2*st.1 ^ st.2.1 % p=a ^ n % p)
    (fun r=>r=a ^ n % p) (fun st=>st.2.1) (fun st ⟨h1,h2,h3,h4⟩=>by
      obtain ⟨x,m,o⟩:=st
      simp only at h1 h2 h3 h4
      unfold lS
      by_cases c:m=0
      · subst c
        rw [dF (by simp),cF]
        refine ⟨_,rfl,?_⟩
        show o=_
        rw [← h4];simp [Nat.mod_eq_of_lt h3]
      · rw [dT (by simp;omega),cT]
        have a1:uE m 1=m % 2:=by rw [wT h2 (by decide)];exact Nat.and_two_pow_sub_one_eq_mod m 1
        have s1:sV m (1:Int)=some (m / 2):=sg (q:=1) (by omega)
        rw [bS,a1]
        by_cases g:m % 2=1
        · rw [eT (by omega),cT,jI hp h3 h1,bS,jI hp h1 h1,bS,s1,bS]
          exact ⟨_,rfl,⟨Nat.mod_lt _ hp.pos,by show m / 2 < _;omega,Nat.mod_lt _ hp.pos,pow_odd h4 g⟩,by show m / 2 < m;omega⟩
        · rw [eF (by omega),cF,jI hp h1 h1,bS,s1,bS]
          exact ⟨_,rfl,⟨Nat.mod_lt _ hp.pos,by show m / 2 < _;omega,h3,pow_even h4 (by omega)⟩,by show m / 2 < m;omega⟩)
    (s:=(a,n,1)) ⟨ha,hn,(show (1:Nat) < p by omega),by simp⟩ hn
  rw [e,bS,hr]
theorem Db {p a:Nat} (hp:fM p) (ha:a < p) (h0:a≠0):kV p a=some (G5 p a (p - 2),0):=by
  have hl:=hp.lt
  unfold kV
  rw [eF (by omega),cF,u5 (by omega) (by omega)]
  simp only [bS]
  rw [Jj hp ha (by omega),bS]
  rfl
theorem vB {p a b:Nat} [NeZero p] (hb:b < p):o p ((a+(p - b) % p) % p)=o p a - o p b:=by
  rw [kK,vA,kK,HS (by omega),Dq];grind
theorem Je {p b:Nat} [NeZero p] (hb:b < p):o p ((p - b) % p) = - o p b:=by
  rw [kK,HS (by omega),Dq];grind
end Pu

/- Plain laws of the elimination. -/
set_option linter.unusedVariables false
namespace Pu
open Gw Gl Sp Lean.Grind
structure pQ (p h n:Nat) (l:List (List Nat)):Prop where
  len:l.length=h
  row:∀ i,i < h→(l.getD i []).length=n
  lt:∀ i,i < h→∀ j,j < n→(l.getD i []).getD j 0 < p
def G (p:Nat) [NeZero p] (l:List (List Nat)) (i j:Nat):Fin p:=o p ((l.getD i []).getD j 0)
theorem tc {l:List Nat} (h:l.length≤1000):cc l=some l:=by
  unfold cc
  rw [aO (by simp;omega) (by simp;omega),bS,List.nil_append]
theorem p6 {l:List (List Nat)} (h:l.length≤1000):bU l=some l:=by
  unfold bU
  rw [aO (by simp;omega) (by simp;omega),bS,List.nil_append]
theorem pM {α:Type} {l:List α} {k:Nat} {d:α} (h:k < l.length):l.set k (l.getD k d)=l:=by
  apply List.ext_getElem?
  intro i
  rw [List.getElem?_set]
  split
  · next e =>
    subst e
    simp [h]
  · rfl
theorem pQ.some {p h n i:Nat} {l:List (List Nat)} (m:pQ p h n l) (hi:i < h):l[i]?=some (l.getD i []):=ix [] (by rw [m.len];exact hi)
theorem rd {p h n i j:Nat} {l:List (List Nat)} (m:pQ p h n l) (hi:i < h) (hj:j < n):(l.getD i [])[j]?=some ((l.getD i []).getD j 0):=ix 0 (by rw [m.row i hi];exact hj)
theorem pQ.setRow {p h n i:Nat} {l:List (List Nat)} {r:List Nat} (m:pQ p h n l) (hi:i < h) (hl:r.length=n) (hr:∀ j,j < n→r.getD j 0 < p):pQ p h n (l.set i r):=by
  have hil:i < l.length:=by rw [m.len];exact hi
  refine ⟨by rw [List.length_set];exact m.len,fun k hk=>?_,fun k hk j hj=>?_⟩
  · rw [aN hil];split
    · exact hl
    · exact m.row k hk
  · rw [aN hil];split
    · exact hr j hj
    · exact m.lt k hk j hj
section
variable {p:Nat} [NeZero p] {h n:Nat}
/-- the pivot's row is scaled -/
theorem D6 (hp:fM p) {l8:List (List Nat)} {l5:List Int} {u:Nat} {e:Int} (m:pQ p h n l8) (hr:l5.length < h) (hu:u < p) :
    ∃ l,dO (fun k3 (st:(List (List Nat)))=>kB p l5 (l8.getD l5.length []) (u,e) k3 st) n 0 l8=some l∧pQ p h n l∧(∀ i,i < h→i≠l5.length→l.getD i []=l8.getD i [])∧∀ j,j < n→G p l l5.length j=o p u*G p l8 l5.length j:=by
  have hrl:=m.row _ hr
  obtain ⟨l,e,m1,h1,h2,_⟩:=bj (body:=fun k3 (st:(List (List Nat)))=>kB p l5 (l8.getD l5.length []) (u,e) k3 st) (rem:=n) (k:=0) (s:=l8)
    (fun k l=>pQ p h n l∧(∀ i,i < h→i≠l5.length→l.getD i []=l8.getD i [])∧(∀ j,j < k→j < n→G p l l5.length j=o p u*G p l8 l5.length j)∧(∀ j,k≤j→(l.getD l5.length []).getD j 0=(l8.getD l5.length []).getD j 0))
    ⟨m,fun _ _ _=>rfl,fun j hj=>by omega,fun _ _=>rfl⟩ (fun k l _ hk ⟨m1,h1,h2,h3⟩=>by
      have hk':k < n:=by omega
      unfold kB
      rw [rd m hr hk',bS,m1.some hr,bS,rd m1 hr hk',bS,jI hp hu (m1.lt _ hr _ hk'),bS,bS,bS]
      have hrl1:=m1.row _ hr
      have hll:l5.length < l.length:=by rw [m1.len];exact hr
      refine ⟨_,rfl,m1.setRow hr (by rw [List.length_set];exact hrl1) (fun j hj=>?_),fun i hi hne=>?_,fun j hj hjn=>?_,fun j hj=>?_⟩
      · rw [aN (by rw [hrl1];exact hk')];split
        · exact Nat.mod_lt _ hp.pos
        · exact m1.lt _ hr _ hj
      · rw [aN hll,if_neg (fun e=>hne e.symm)];exact h1 i hi hne
      · show o p (((l.set _ _).getD l5.length []).getD j 0)=_
        rw [aN hll,if_pos rfl,aN (by rw [hrl1];exact hk')]
        by_cases g:k=j
        · subst g
          rw [if_pos rfl,kK,nZ,h3 k (Nat.le_refl k)];rfl
        · rw [if_neg g];exact h2 j (by omega) hjn
      · rw [aN hll,if_pos rfl,aN (by rw [hrl1];exact hk'),if_neg (by omega)];exact h3 j (by omega))
  exact ⟨l,e,m1,h1,fun j hj=>h2 j (by omega) hj⟩
/-- one row is cleared -/
theorem Co (hp:fM p) {l:List (List Nat)} {l5:List Int} {i c:Nat} (m:pQ p h n l) (hr:l5.length < h) (hi:i < h) (hne:i≠l5.length) (hc:c < n) :
    ∃ l',dO (fun k5 (st:(List (List Nat)))=>kD p l5 i (l.getD i []) ((l.getD i []).getD c 0) (l.getD l5.length []) k5 st) n 0 l=some l'∧pQ p h n l'∧(∀ k,k < h→k≠i→l'.getD k []=l.getD k [])∧∀ j,j < n→G p l' i j=G p l i j - G p l i c*G p l l5.length j:=by
  have hil:=m.row _ hi
  obtain ⟨l',e,m1,h1,h2,_⟩:=bj (body:=fun k5 (st:(List (List Nat)))=>kD p l5 i (l.getD i []) ((l.getD i []).getD c 0) (l.getD l5.length []) k5 st) (rem:=n) (k:=0) (s:=l)
    (fun k l'=>pQ p h n l'∧(∀ k,k < h→k≠i→l'.getD k []=l.getD k [])∧(∀ j,j < k→j < n→G p l' i j=G p l i j - G p l i c*G p l l5.length j)∧(∀ j,k≤j→(l'.getD i []).getD j 0=(l.getD i []).getD j 0))
    ⟨m,fun _ _ _=>rfl,fun j hj=>by omega,fun _ _=>rfl⟩ (fun k l' _ hk ⟨m1,h1,h2,h3⟩=>by
      have hk':k < n:=by omega
      have hil1:=m1.row _ hi
      have hll:i < l'.length:=by rw [m1.len];exact hi
      unfold kD
      rw [rd m hr hk',bS,m1.some hr,bS,h1 _ hr (fun e=>hne e.symm),rd m hr hk',bS,rd m hi hk',bS,m1.some hi,bS,rd m1 hi hk',bS,jI hp (m.lt _ hi _ hc) (m.lt _ hr _ hk'),bS,vO hp (m1.lt _ hi _ hk') (Nat.mod_lt _ hp.pos),bS,bS,bS]
      refine ⟨_,rfl,m1.setRow hi (by rw [List.length_set];exact hil1) (fun j hj=>?_),fun q hq hqi=>?_,fun j hj hjn=>?_,fun j hj=>?_⟩
      · rw [aN (by rw [hil1];exact hk')];split
        · exact Nat.mod_lt _ hp.pos
        · exact m1.lt _ hi _ hj
      · rw [aN hll,if_neg (fun e=>hqi e.symm)];exact h1 q hq hqi
      · show o p (((l'.set _ _).getD i []).getD j 0)=_
        rw [aN hll,if_pos rfl,aN (by rw [hil1];exact hk')]
        by_cases g:k=j
        · subst g
          rw [if_pos rfl,vB (Nat.mod_lt _ hp.pos),kK,nZ,h3 k (Nat.le_refl k)];rfl
        · rw [if_neg g];exact h2 j (by omega) hjn
      · rw [aN hll,if_pos rfl,aN (by rw [hil1];exact hk'),if_neg (by omega)];exact h3 j (by omega))
  exact ⟨l',e,m1,h1,fun j hj=>h2 j (by omega) hj⟩
/-- all other rows are cleared -/
theorem Ed (hp:fM p) {l:List (List Nat)} {l5:List Int} {c:Nat} (m:pQ p h n l) (hr:l5.length < h) (hc:c < n) (hn:n≤1000) :
    ∃ l',dO (fun k4 (st:(List (List Nat)))=>kC p l5 c k4 st) h 0 l=some l'∧pQ p h n l'∧(∀ j,j < n→G p l' l5.length j=G p l l5.length j)∧∀ i,i < h→i≠l5.length→∀ j,j < n→G p l' i j=G p l i j - G p l i c*G p l l5.length j:=by
  obtain ⟨l',e,m1,h1,h2,h3⟩:=bj (body:=fun k4 (st:(List (List Nat)))=>kC p l5 c k4 st) (rem:=h) (k:=0) (s:=l)
    (fun k l'=>pQ p h n l'∧(l'.getD l5.length []=l.getD l5.length [])∧(∀ i,i < k→i < h→i≠l5.length→∀ j,j < n→G p l' i j=G p l i j - G p l i c*G p l l5.length j)∧(∀ i,k≤i→l'.getD i []=l.getD i []))
    ⟨m,rfl,fun i hi=>by omega,fun _ _=>rfl⟩ (fun k l' _ hk ⟨m1,h1,h2,h3⟩=>by
      have hk':k < h:=by omega
      unfold kC
      rw [m1.some hk',bS]
      by_cases g:k=l5.length
      · rw [eT (by omega),cT,bS,cT]
        refine ⟨_,rfl,m1,h1,fun i hi hih hne j hj=>h2 i (by omega) hih hne j hj,fun i hi=>h3 i (by omega)⟩
      · rw [eF (by omega),cF,rd m1 hk' hc,bS,bS]
        by_cases g2:(l'.getD k []).getD c 0=0
        · rw [eT (by omega),cT]
          refine ⟨_,rfl,m1,h1,fun i hi hih hne j hj=>?_,fun i hi=>h3 i (by omega)⟩
          by_cases e:i=k
          · subst e
            have z:G p l i c=0:=by
              show o p ((l.getD i []).getD c 0)=0
              rw [← h3 i (Nat.le_refl i),g2,kO]
            have y:G p l' i j=G p l i j:=by
              show o p ((l'.getD i []).getD j 0)=o p ((l.getD i []).getD j 0)
              rw [h3 i (Nat.le_refl i)]
            rw [z,y];grind
          · exact h2 i (by omega) hih hne j hj
        · rw [eF (by omega),cF,bS,m1.some hr,bS,m1.row _ hr,bZ (by omega),bS]
          obtain ⟨l2,e2,m2,k1,k2⟩:=Co hp (l5:=l5) (i:=k) (c:=c) m1 hr hk' g hc
          rw [Nat.sub_zero,e2,bS]
          refine ⟨_,rfl,m2,?_,fun i hi hih hne j hj=>?_,fun i hi=>?_⟩
          · rw [k1 _ hr (fun e=>g e.symm)];exact h1
          · by_cases e:i=k
            · subst e
              rw [k2 j hj]
              have y:∀ q,G p l' i q=G p l i q:=fun q=>by
                show o p ((l'.getD i []).getD q 0)=o p ((l.getD i []).getD q 0)
                rw [h3 i (Nat.le_refl i)]
              have y2:G p l' l5.length j=G p l l5.length j:=by
                show o p ((l'.getD l5.length []).getD j 0)=o p ((l.getD l5.length []).getD j 0)
                rw [h1]
              rw [y,y,y2]
            · have:=h2 i (by omega) hih hne j hj
              rw [← this]
              show o p ((l2.getD i []).getD j 0)=o p ((l'.getD i []).getD j 0)
              rw [k1 i hih e]
          · by_cases hih:i < h
            · rw [k1 i hih (by omega)];exact h3 i (by omega)
            · have a1:l2.length≤i:=by rw [m2.len];omega
              have a2:l.length≤i:=by rw [m.len];omega
              rw [List.getD_eq_getElem?_getD,List.getElem?_eq_none a1,List.getD_eq_getElem?_getD,List.getElem?_eq_none a2])
  exact ⟨l',e,m1,fun j hj=>by show o p ((l'.getD l5.length []).getD j 0)=o p ((l.getD l5.length []).getD j 0);rw [h1],fun i hi hne j hj=>h2 i (by omega) hi hne j hj⟩
end
/-- the search for a pivot -/
theorem find_ok {p h n:Nat} {l:List (List Nat)} {r c:Nat} (m:pQ p h n l) (hr:r≤h) (hc:c < n) (hh:h≤1000) :
    ∃ x,sS (fun (st:Int × Int)=>gR l c st.1 st.2) big ((-1),((r:Nat):Int))=some x∧((x = -1∧∀ i,r≤i→i < h→(l.getD i []).getD c 0=0) ∨ ∃ a:Nat,x=a∧r≤a∧a < h∧(l.getD a []).getD c 0≠0):=by
  obtain ⟨x,e,hx⟩:=iR (step:=fun (st:Int × Int)=>gR l c st.1 st.2)
    (fun st=>∃ k:Nat,st.2=k∧k≤h∧((st.1 = -1∧r≤k∧∀ i,r≤i→i < k→(l.getD i []).getD c 0=0) ∨ ∃ a:Nat,st.1=a∧r≤a∧a < h∧(l.getD a []).getD c 0≠0))
    (fun x=>(x = -1∧∀ i,r≤i→i < h→(l.getD i []).getD c 0=0) ∨ ∃ a:Nat,x=a∧r≤a∧a < h∧(l.getD a []).getD c 0≠0)
    (fun st=>h - st.2.toNat) (fun st ⟨k,h1,h2,h3⟩=>by
      obtain ⟨x6,x7⟩:=st
      simp only at h1 h3
      subst h1
      unfold gR
      rw [m.len]
      by_cases c1:k < h
      · rw [dT (by omega),cT]
        rcases h3 with ⟨rfl,g1,g2⟩ | ⟨a,rfl,g⟩
        · rw [dT (by omega),bS,cT,aQ [] (by omega) (by rw [m.len];omega),bS]
          simp only [Int.toNat_natCast]
          rw [rd m c1 hc,bS]
          by_cases z:(l.getD k []).getD c 0=0
          · rw [qF (by omega),cF,bd (by omega) (by omega),bS]
            refine ⟨_,rfl,⟨k+1,rfl,by omega,.inl ⟨rfl,by omega,fun i hi1 hi2=>?_⟩⟩,by show h - ((k:Int)+1).toNat < h - ((k:Int)).toNat;omega⟩
            by_cases e:i=k
            · subst e;exact z
            · exact g2 i hi1 (by omega)
          · rw [qT (by omega),cT,bd (by omega) (by omega),bS]
            exact ⟨_,rfl,⟨k+1,rfl,by omega,.inr ⟨k,rfl,g1,c1,z⟩⟩,by show h - ((k:Int)+1).toNat < h - ((k:Int)).toNat;omega⟩
        · rw [dF (by omega),bS,cF]
          exact ⟨_,rfl,.inr ⟨a,rfl,g⟩⟩
      · rw [dF (by omega),cF,bS,cF]
        refine ⟨_,rfl,?_⟩
        rcases h3 with ⟨rfl,g1,g2⟩ | g
        · exact .inl ⟨rfl,fun i hi1 hi2=>g2 i hi1 (by omega)⟩
        · exact .inr g) (s:=((-1),((r:Nat):Int))) ⟨r,rfl,hr,.inl ⟨rfl,Nat.le_refl r,fun i a b=>by omega⟩⟩ (by show h - _ < _;omega)
  exact ⟨x,e,hx⟩
section
variable {p:Nat} [NeZero p] {h n:Nat}
def pv (l5:List Int) (r:Nat):Nat:=(l5.getD r 0).toNat
/-- one column -/
theorem Cp (hp:fM p) {M0:Nat→Nat→Fin p} {l4:List (List Nat)} {l5:List Int} {c x3 W:Nat} (hW:n < W) (hW9:W≤1000) (m:pQ p h W l4) (hc:c < n) (hn:n≤900) (hh:h≤900) (h5:l5.length≤h) (hx:x3 < p)
    (h0:∀ r,r < l5.length→l5.getD r 0=((pv l5 r:Nat):Int)) (red:tP h n M0 (G p l4) l5.length (pv l5) c) :
    ∃ l l' x,gQ p c l4 l5 x3=some (l,l',x)∧pQ p h W l∧l'.length≤h∧x < p∧(∀ r,r < l'.length→l'.getD r 0=((pv l' r:Nat):Int))∧tP h n M0 (G p l) l'.length (pv l') (c+1):=by
  unfold gQ
  obtain ⟨x9,e9,hx9⟩:=find_ok (c:=c) m h5 (by omega) (by omega)
  rw [e9,bS]
  rcases hx9 with ⟨rfl,hz⟩ | ⟨a,rfl,a1,a2,a3⟩
  · rw [dT (by omega),cT]
    exact ⟨_,_,_,rfl,m,h5,hx,h0,red.skip hc fun i hi1 hi2=>by show o p _=0;rw [hz i hi1 hi2,kO]⟩
  · rw [dF (by omega),cF]
    have hr:l5.length < h:=by omega
    -- the rows as they stand behind the swap
    obtain ⟨l8,x15,e8,m8,hx15,r8⟩:∃ l8 x15,(bif ((a:Nat):Int) != ((l5.length:Nat):Int) then
        l4[l5.length]? >>= fun x16 =>
        ie l4 ((a:Nat):Int) >>= fun x17 =>
        some ((l4.set ((a:Nat):Int).toNat x16).set l5.length x17) >>= fun l9 =>
        mX p x3 >>= fun r6 =>
        some (l9,r6)
      else
        some (l4,x3))=some (l8,x15)∧pQ p h W l8∧x15 < p∧∀ i,i < h→l8.getD i []=if i=l5.length then l4.getD a [] else if i=a then l4.getD l5.length [] else l4.getD i []:=by
      by_cases e:a=l5.length
      · rw [qF (by omega),cF]
        refine ⟨_,_,rfl,m,hx,fun i hi=>?_⟩
        subst e
        by_cases g:i=l5.length
        · rw [if_pos g,g]
        · rw [if_neg g,if_neg g]
      · rw [qT (by omega),cT,m.some hr,bS,aQ [] (by omega) (by rw [m.len];omega),bS,bS,zK hp hx,bS]
        simp only [Int.toNat_natCast]
        have m1:=m.setRow (i:=a) a2 (m.row _ hr) (m.lt _ hr)
        have m2:=m1.setRow (i:=l5.length) hr (m.row _ a2) (m.lt _ a2)
        refine ⟨_,_,rfl,m2,Nat.mod_lt _ hp.pos,fun i hi=>?_⟩
        rw [aN (by rw [List.length_set,m.len];exact hr),aN (by rw [m.len];exact a2)]
        by_cases g:i=l5.length
        · rw [if_pos g.symm,if_pos g]
        · rw [if_neg (fun e=>g e.symm),if_neg g]
          by_cases g2:i=a
          · rw [if_pos g2.symm,if_pos g2]
          · rw [if_neg (fun e=>g2 e.symm),if_neg g2]
    rw [e8,bS]
    simp only
    have hcn:c < W:=by omega
    have hgc:(l8.getD l5.length []).getD c 0=(l4.getD a []).getD c 0:=by rw [r8 _ hr,if_pos rfl]
    have hlt:(l4.getD a []).getD c 0 < p:=m.lt _ a2 _ hcn
    rw [m8.some hr,bS,rd m8 hr hcn,bS,hgc,jI hp hx15 hlt,bS,Db hp hlt a3,bS,m8.row _ hr,bZ (by omega),bS,Nat.sub_zero]
    obtain ⟨l11,e11,m11,s1,s2⟩:=D6 (e:=0) hp (l5:=l5) m8 hr (DJ (a:=(l4.getD a []).getD c 0) (b:=p - 2) hp)
    rw [e11,bS,m11.len,Nat.sub_zero]
    obtain ⟨l15,e15,m15,t1,t2⟩:=Ed hp (l5:=l5) m11 hr hcn (by omega)
    rw [e15,bS,aO (by simp;omega) (by simp;omega),bS]
    have hpv:∀ r,r < l5.length→pv (l5++[((c:Nat):Int)]) r=pv l5 r:=fun r hr=>by
      unfold pv;rw [List.getD_eq_getElem?_getD,List.getElem?_append_left hr,← List.getD_eq_getElem?_getD]
    have hpc:pv (l5++[((c:Nat):Int)]) l5.length=c:=by unfold pv;simp
    refine ⟨_,_,_,rfl,m15,by simp;omega,Nat.mod_lt _ hp.pos,fun r hr2=>?_,?_⟩
    · simp only [List.length_append,List.length_cons,List.length_nil] at hr2
      by_cases g:r=l5.length
      · subst g;rw [hpc];simp
      · rw [hpv r (by omega),← h0 r (by omega)]
        rw [List.getD_eq_getElem?_getD,List.getElem?_append_left (by omega),← List.getD_eq_getElem?_getD]
    · have red2:tP h n M0 (G p l4) l5.length (pv (l5++[((c:Nat):Int)])) c :=
        ⟨red.sol,red.len,fun s hs=>by rw [hpv s hs];exact red.lt s hs,red.cn,fun s hs i hi=>by rw [hpv s hs];exact red.unit s hs i hi,red.low⟩
      have G8:∀ i,i < h→∀ j,G p l8 i j=if i=l5.length then G p l4 a j else if i=a then G p l4 l5.length j else G p l4 i j:=fun i hi j=>by
        show o p ((l8.getD i []).getD j 0)=_
        rw [r8 i hi]
        split
        · rfl
        · split <;> rfl
      have G11:∀ i,i < h→i≠l5.length→∀ j,G p l11 i j=G p l8 i j:=fun i hi hne j=>by
        show o p ((l11.getD i []).getD j 0)=o p ((l8.getD i []).getD j 0)
        rw [s1 i hi hne]
      have red3:=red2.pivot hc hp.one a1 a2 (u:=o p (G5 p ((l4.getD a []).getD c 0) (p - 2))) (M':=G p l15)
        (hp.oinv (by rw [Nat.mod_eq_of_lt hlt];exact a3)) hpc
        (fun j hj=>by rw [t1 j (by omega),s2 j (by omega),G8 _ hr,if_pos rfl])
        (fun i hi hne j hj=>by
          rw [t2 i hi hne j (by omega),t1 j (by omega),G11 i hi hne,G11 i hi hne,G8 i hi,G8 i hi,if_neg hne,if_neg hne]
          )
      rw [List.length_append]
      exact red3
/-- all columns -/
theorem DV (hp:fM p) {l:List (List Nat)} {W:Nat} (hW:n < W) (hW9:W≤1000) (m:pQ p h W l) (hn:n≤900) (hh:h≤900) :
    ∃ w,kY p l ((n:Nat):Int)=some w∧pQ p h W w.zm∧w.zpivot.length≤h∧(∀ r,r < w.zpivot.length→w.zpivot.getD r 0=((pv w.zpivot r:Nat):Int))∧tP h n (G p l) (G p w.zm) w.zpivot.length (pv w.zpivot) n:=by
  unfold kY
  rw [p6 (by rw [m.len];omega),bS,m.len,bZ (by omega),bS,Nat.sub_zero]
  obtain ⟨l2,e2,h2⟩:=bj (body:=fun k1 (st:(List (List Nat)))=>mZ k1 st) (rem:=h) (k:=0) (s:=l) (fun _ l'=>l'=l) rfl (fun k l' _ hk he=>by
    subst he
    unfold mZ
    rw [m.some (by omega),bS,tc (by rw [m.row _ (by omega)];omega),bS,bS]
    exact ⟨_,rfl,pM (by rw [m.len];omega)⟩)
  subst h2
  rw [e2,bS]
  have hmx:max 0 ((n:Nat):Int).toNat=n:=by simp
  rw [hmx,bZ (by omega),bS,Nat.sub_zero]
  obtain ⟨st,e,h1,h2,h3,h4,h5⟩:=bj (body:=fun k2 (st:(List (List Nat)) × (List Int) × Nat)=>gQ p k2 st.1 st.2.1 st.2.2) (rem:=n) (k:=0) (s:=(l2,([]:List Int),1))
    (fun c st=>pQ p h W st.1∧st.2.1.length≤h∧st.2.2 < p∧(∀ r,r < st.2.1.length→st.2.1.getD r 0=((pv st.2.1 r:Nat):Int))∧tP h n (G p l2) (G p st.1) st.2.1.length (pv st.2.1) c)
    ⟨m,by simp,by have:=hp.lt;show 1 < p;omega,fun r hr=>by simp at hr,tP.start⟩ (fun c st _ hc ⟨h1,h2,h3,h4,h5⟩=>by
      obtain ⟨l,l',x,e,k1,k2,k3,k4,k5⟩:=Cp hp hW hW9 h1 (by omega) hn hh h2 h3 h4 h5
      exact ⟨_,e,k1,k2,k3,k4,k5⟩)
  rw [e,bS]
  rw [Nat.zero_add] at h5
  exact ⟨_,rfl,h1,h2,h4,h5⟩
theorem zQ (hp:fM p) {l:List (List Nat)} (m:pQ p h (n+1) l) (hn:n≤900) (hh:h≤900) :
    ∃ w,kY p l ((n:Nat):Int)=some w∧pQ p h (n+1) w.zm∧w.zpivot.length≤h∧(∀ r,r < w.zpivot.length→w.zpivot.getD r 0=((pv w.zpivot r:Nat):Int))∧tP h n (G p l) (G p w.zm) w.zpivot.length (pv w.zpivot) n:=DV hp (Nat.lt_succ_self n) (by omega) m hn hh
end
end Pu

/- Plain laws of solving linear equations. -/
set_option linter.unusedVariables false
namespace Pu
open Gw Gl Sp Lean.Grind
theorem da {α:Type} {a b:List α} {i:Nat} {d:α} (h:i < a.length):(a++b).getD i d=a.getD i d:=by
  rw [List.getD_eq_getElem?_getD,List.getElem?_append_left h,← List.getD_eq_getElem?_getD]
theorem eG {α:Type} {a:List α} {x d:α} {i:Nat} (h:i=a.length):(a++[x]).getD i d=x:=by
  subst h;simp [List.getD_eq_getElem?_getD]
theorem G9 {p h n:Nat} {m:List (List Nat)} (hm:pQ p h n m) (h0:0 < h):o9 m=some true:=by
  unfold o9 cG cO
  rw [hm.len,Nat.sub_zero]
  obtain ⟨o,e,ho⟩:=ef (body:=fun k1 (st:Unit)=>cH m m k1) (fun _ _=>True) (fun _=>False) (rem:=h) (k:=0) (s:=()) trivial (fun k _ _ hk _=>by
    unfold cH pJ
    rw [hm.some (show k < h by omega),bS,hm.some h0,bS,bS,hm.row _ (by omega),hm.row _ h0,qF rfl,cF]
    exact ⟨_,rfl,trivial⟩)
  rw [e]
  cases o with
  | fin r=>exact ho.elim
  | go s=>rw [bS,oG,bS,dF (by omega),bS,nF]
theorem E2 {p h n:Nat} {m:List (List Nat)} (hm:pQ p h n m) (h0:0 < h):o8 m=some ((n:Nat):Int):=by
  unfold o8
  rw [hm.len,eF (by omega),cF,hm.some h0,bS,hm.row _ h0]
section
variable {p:Nat} [NeZero p] {h n:Nat}
theorem Hv {m:List (List Nat)} {b:List Nat} (hm:pQ p h n m) (hb:b.length=h) (hbp:∀ i,i < h→b.getD i 0 < p) (hn:n≤900) (hh:h≤900) :
    ∃ l,dO (fun k1 (st:(List (List Nat)))=>lr m b k1 st) h 0 ([]:List (List Nat))=some l∧pQ p h (n+1) l∧(∀ i,i < h→∀ j,j < n→G p l i j=G p m i j)∧∀ i,i < h→G p l i n=o p (b.getD i 0):=by
  obtain ⟨l,e,h1,h2⟩:=bj (body:=fun k1 (st:(List (List Nat)))=>lr m b k1 st) (rem:=h) (k:=0) (s:=([]:List (List Nat)))
    (fun k l=>l.length=k∧∀ i,i < k→l.getD i []=m.getD i []++[b.getD i 0]) ⟨rfl,fun i hi=>by omega⟩ (fun k l _ hk ⟨h1,h2⟩=>by
      have hk':k < h:=by omega
      unfold lr
      rw [hm.some hk',bS,tc (by rw [hm.row _ hk'];omega),bS,ix 0 (by omega),bS,aO (by rw [hm.row _ hk'];simp;omega) (by rw [hm.row _ hk'];simp;omega),bS,aO (by simp;omega) (by simp;omega),bS]
      refine ⟨_,rfl,by simp [h1],fun i hi=>?_⟩
      by_cases g:i=k
      · subst g;exact eG h1.symm
      · rw [da (by omega)];exact h2 i (by omega))
  rw [Nat.zero_add] at h1 h2
  have hr:∀ i,i < h→∀ j,(l.getD i []).getD j 0=if j < n then (m.getD i []).getD j 0 else if j=n then b.getD i 0 else (l.getD i []).getD j 0:=fun i hi j=>by
    have hl:=hm.row _ hi
    split
    · next g=>rw [h2 i hi,da (by omega)]
    · split
      · next g=>rw [h2 i hi,eG (by omega)]
      · rfl
  refine ⟨l,e,⟨h1,fun i hi=>by rw [h2 i hi,List.length_append,hm.row _ hi];rfl,fun i hi j hj=>?_⟩,fun i hi j hj=>?_,fun i hi=>?_⟩
  · rw [hr i hi]
    by_cases g:j < n
    · rw [if_pos g];exact hm.lt i hi j g
    · rw [if_neg g,if_pos (by omega)];exact hbp i hi
  · show o p _=o p _;rw [hr i hi,if_pos hj]
  · show o p _=o p _;rw [hr i hi,if_neg (by omega),if_pos rfl]
theorem Eb (hp:fM p) {m:List (List Nat)} {b:List Nat} (hm:pQ p h n m) (h0:0 < h) (hb:b.length=h) (hbp:∀ i,i < h→b.getD i 0 < p) (hn:n≤900) (hh:h≤900) {M:Nat→Nat→Fin p} (hM:∀ i,i < h→∀ j,j < n→M i j=G p m i j) (hMb:∀ i,i < h→M i n=o p (b.getD i 0)) :
    ∃ v e,od p m b=some (v,e)∧((e=0∧v.length=n∧(∀ j,j < n→v.getD j 0 < p)∧HC h n M (fun j=>o p (v.getD j 0))) ∨ (e=6∧∀ v,¬ HC h n M v)):=by
  unfold od
  rw [G9 hm h0,bS,nT,cF,hm.len,hb,qF rfl,bS,cF,E2 hm h0,bS,Nat.sub_zero]
  obtain ⟨l,e1,w1,w2,w3⟩:=Hv hm hb hbp hn hh
  rw [e1,bS]
  obtain ⟨w,e2,m2,k2,p2,red⟩:=zQ hp w1 hn hh
  have red':tP h n M (G p w.zm) w.zpivot.length (pv w.zpivot) n:=by
    refine ⟨fun v=>?_,red.len,red.lt,red.cn,red.unit,red.low⟩
    rw [← red.sol]
    constructor
    · intro g i hi
      rw [w3 i hi,← hMb i hi,← g i hi]
      exact oi fun j hj=>by rw [w2 i hi j hj,hM i hi j hj]
    · intro g i hi
      rw [hMb i hi,← w3 i hi,← g i hi]
      exact oi fun j hj=>by rw [w2 i hi j hj,hM i hi j hj]
  rw [e2,bS,m2.len,gP (by omega) (by omega) (by rw [m2.len];omega),bS]
  simp only [Int.toNat_natCast]
  have hl5:((w.zm.drop w.zpivot.length).take (h - w.zpivot.length)).length=h - w.zpivot.length:=by rw [List.length_take,List.length_drop,m2.len];omega
  have h5g:∀ i,i < h - w.zpivot.length→((w.zm.drop w.zpivot.length).take (h - w.zpivot.length))[i]?=some (w.zm.getD (w.zpivot.length+i) []):=fun i hi=>by
    rw [List.getElem?_take,if_pos hi,List.getElem?_drop]
    exact m2.some (by omega)
  rw [hl5,Nat.sub_zero]
  generalize (w.zm.drop w.zpivot.length).take (h - w.zpivot.length)=l5 at *
  obtain ⟨o1,e3,ho⟩:=ef (body:=fun k2 (st:Unit)=>nU ((n:Nat):Int) l5 k2) (fun k _=>∀ i,w.zpivot.length≤i→i < w.zpivot.length+k→G p w.zm i n=0) (fun r=>r=(([]:List Nat),((6:Nat):Int))∧∃ i,w.zpivot.length≤i∧i < h∧G p w.zm i n≠0) (rem:=h - w.zpivot.length) (k:=0) (s:=()) (fun i h1 h2=>by omega) (fun k _ _ hk hi=>by
    unfold nU
    have hkh:w.zpivot.length+k < h:=by omega
    rw [h5g k (by omega),bS,aQ 0 (by omega) (by rw [m2.row _ hkh];omega),bS]
    simp only [Int.toNat_natCast]
    by_cases z:(w.zm.getD (w.zpivot.length+k) []).getD n 0=0
    · rw [qF (by omega),cF]
      refine ⟨_,rfl,fun i h1 h2=>?_⟩
      by_cases g:i=w.zpivot.length+k
      · subst g;show o p _=0;rw [z,kO]
      · exact hi i h1 (by omega)
    · rw [qT (by omega),cT]
      refine ⟨_,rfl,rfl,w.zpivot.length+k,by omega,hkh,fun e=>z ?_⟩
      have hlt:=m2.lt _ hkh n (by omega)
      have:o p ((w.zm.getD (w.zpivot.length+k) []).getD n 0)=0:=e
      rw [yC,Nat.mod_eq_of_lt hlt] at this
      exact this)
  rw [e3,bS]
  cases o1 with
  | fin r =>
    obtain ⟨hr,i,h1,h2,h3⟩:=ho
    rw [oF,hr]
    exact ⟨_,_,rfl,.inr ⟨rfl,fun v hv=>h3 (red'.rest hv h1 h2)⟩⟩
  | go s =>
    have hz:∀ i,w.zpivot.length≤i→i < h→G p w.zm i n=0:=fun i h1 h2=>ho i h1 (by omega)
    rw [oG,cV (by omega) (by omega) (by omega) (by omega),bS,Nat.sub_zero]
    simp only [Int.toNat_natCast]
    obtain ⟨v,e4,v1,v2,v3⟩:=bj (body:=fun k3 (st:(List Nat))=>nW ((n:Nat):Int) w k3 st) (rem:=w.zpivot.length) (k:=0) (s:=List.replicate n 0)
      (fun s v=>v.length=n∧(∀ j,j < n→v.getD j 0 < p)∧Read n (G p w.zm) (pv w.zpivot) s (fun j=>o p (v.getD j 0))) ⟨by simp,fun j hj=>by simp [List.getD_eq_getElem?_getD,hj];exact hp.pos,fun j hj _=>by simp [List.getD_eq_getElem?_getD,hj,kO],fun r hr=>by omega⟩ (fun k v _ hk ⟨v1,v2,v3⟩=>by
        have hk':k < w.zpivot.length:=by omega
        have hkh:k < h:=by omega
        have hpn:pv w.zpivot k < n:=red.lt k hk'
        unfold nW
        rw [ix 0 hk',bS,m2.some hkh,bS,aQ 0 (by omega) (by rw [m2.row _ hkh];omega),bS,p2 k hk',aQ 0 (by omega) (by rw [v1];omega),bS,bS]
        simp only [Int.toNat_natCast]
        refine ⟨_,rfl,by rw [List.length_set];exact v1,fun j hj=>?_,fun j hj hne=>?_,fun r hr=>?_⟩
        · rw [aN (by rw [v1];exact hpn)];split
          · exact m2.lt _ hkh n (by omega)
          · exact v2 j hj
        · show o p _=0
          rw [aN (by rw [v1];exact hpn),if_neg (hne k (by omega))]
          exact v3.1 j hj fun r hr=>hne r (by omega)
        · show o p _=o p _
          rw [aN (by rw [v1];exact hpn)]
          by_cases g:r=k
          · subst g;rw [if_pos rfl]
          · rw [if_neg (fun e=>g (red.distinct hp.one (by omega) hk' e.symm))]
            exact v3.2 r (by omega))
    rw [e4,bS]
    rw [Nat.zero_add] at v3
    exact ⟨_,_,rfl,.inl ⟨rfl,v1,v2,red'.solved hp.one v3 hz⟩⟩
end
end Pu

/- Plain laws of polynomials. -/
set_option linter.unusedVariables false
namespace Pu
open Gw Gl Sp Lean.Grind
def Lt (p:Nat) (l:List Nat):Prop:=∀ i,i < l.length→l.getD i 0 < p
theorem Lt.get {p:Nat} {l:List Nat} (hp:0 < p) (h:Lt p l) (i:Nat):l.getD i 0 < p:=by
  by_cases g:i < l.length
  · exact h i g
  · rw [List.getD_eq_getElem?_getD,List.getElem?_eq_none (by omega)];exact hp
theorem qx {α:Type} {l:List α} {i:Nat} {d:α} (h:l.length≤i):l.getD i d=d:=by
  rw [List.getD_eq_getElem?_getD,List.getElem?_eq_none h];rfl
/-- the degree -/
theorem Bs {f:List Nat} (h:f.length≤1000):∃ k:Nat,k≤f.length∧pe f=some ((k:Int) - 1)∧(∀ i,k≤i→f.getD i 0=0)∧(k=0 ∨ f.getD (k - 1) 0≠0):=by
  unfold pe
  rw [cN (by omega) (by omega),bS]
  obtain ⟨o,e,ho⟩:=iR (step:=fun (st:Int)=>oP f st) (fun st=>∃ k:Nat,st=(k:Int) - 1∧k≤f.length∧∀ i,k≤i→f.getD i 0=0)
    (fun (o:Int ⊕ Unit)=>∃ k:Nat,k≤f.length∧(∀ i,k≤i→f.getD i 0=0)∧((o=.inr ()∧k=0) ∨ (o=.inl ((k:Int) - 1)∧0 < k∧f.getD (k - 1) 0≠0))) (fun st=>(st+1).toNat) (fun st ⟨k,h1,h2,h3⟩=>by
      subst h1
      unfold oP
      by_cases g:k=0
      · subst g
        rw [dF (by omega),cF]
        exact ⟨_,rfl,0,by omega,h3,.inl ⟨rfl,rfl⟩⟩
      · rw [dT (by omega),cT,aQ 0 (by omega) (by omega),bS]
        have e1:((k:Int) - 1).toNat=k - 1:=by omega
        rw [e1]
        by_cases z:f.getD (k - 1) 0=0
        · rw [qF (by omega),cF,cN (by omega) (by omega),bS]
          refine ⟨_,rfl,⟨k - 1,by omega,by omega,fun i hi=>?_⟩,by omega⟩
          by_cases e:i=k - 1
          · subst e;exact z
          · exact h3 i (by omega)
        · rw [qT (by omega),cT]
          exact ⟨_,rfl,k,h2,h3,.inr ⟨rfl,by omega,z⟩⟩)
    (s:=((f.length:Nat):Int) - 1) ⟨f.length,rfl,Nat.le_refl _,fun i hi=>qx hi⟩ (by omega)
  rw [e,bS]
  obtain ⟨k,h1,h2,⟨rfl,rfl⟩ | ⟨rfl,h3,h4⟩⟩:=ho
  · exact ⟨0,by omega,by rw [Md];rfl,h2,.inl rfl⟩
  · exact ⟨k,h1,by rw [Mc],h2,.inr h4⟩
/-- without zeros at the end -/
theorem Ho {f:List Nat} (h:f.length≤1000):∃ t:List Nat,lF f=some t∧t.length≤f.length∧(∀ i,t.getD i 0=f.getD i 0)∧(t=[] ∨ t.getD (t.length - 1) 0≠0):=by
  obtain ⟨k,h1,h2,h3,h4⟩:=Bs h
  unfold lF
  have e0:(k:Int) - 1+1=(k:Int):=by omega
  rw [h2,bS,bd (by omega) (by omega),bS,e0,gP (by omega) (by omega) (by omega),bS]
  have e1:List.take (((k:Int)).toNat - (0:Int).toNat) (List.drop ((0:Int).toNat) f)=f.take k:=by simp
  rw [e1,aO (by simp;omega) (by simp;omega),bS,List.nil_append]
  have hl:(f.take k).length=k:=by simp;omega
  have hg:∀ i,(f.take k).getD i 0=f.getD i 0:=fun i=>by
    by_cases g:i < k
    · rw [List.getD_eq_getElem?_getD,List.getElem?_take,if_pos g,← List.getD_eq_getElem?_getD]
    · rw [qx (by omega),h3 i (by omega)]
  refine ⟨_,rfl,by omega,hg,?_⟩
  rcases h4 with rfl | h4
  · left;simp
  · right;rw [hl,hg];exact h4
section
variable {p:Nat} [NeZero p]
def P (p:Nat) [NeZero p] (f:List Nat):List (Fin p):=f.map (o p)
theorem sD (f:List Nat):(P p f).length=f.length:=by simp [P]
theorem re (f:List Nat) (i:Nat):cf (P p f) i=o p (f.getD i 0):=by
  unfold cf P
  rw [List.getD_eq_getElem?_getD,List.getElem?_map,List.getD_eq_getElem?_getD]
  cases f[i]? with
  | none=>exact kO.symm
  | some x=>rfl
theorem EP {f g:List Nat} (h:∀ i,f.getD i 0=g.getD i 0) (x:Fin p):dy (P p f) x=dy (P p g) x:=oj (fun i=>by rw [re,re,h i]) x
theorem E6 (hp:fM p) {f:List Nat} {x:Nat} (hf:Lt p f) (hx:x < p) (h:f.length≤1000):∃ y,jE p f x=some y∧y < p∧o p y=dy (P p f) (o p x):=by
  have hl:=hp.lt
  unfold jE
  rw [cN (by omega) (by omega),bS]
  obtain ⟨r,e,h1,h2⟩:=iR (step:=fun (st:Nat × Int)=>lU p f x st.1 st.2) (fun st=>∃ k:Nat,st.2=(k:Int) - 1∧k≤f.length∧st.1 < p∧o p st.1=dy (P p (f.drop k)) (o p x))
    (fun r=>r < p∧o p r=dy (P p f) (o p x)) (fun st=>(st.2+1).toNat) (fun st ⟨k,h1,h2,h3,h4⟩=>by
      obtain ⟨a,z⟩:=st
      simp only at h1 h3 h4
      subst h1
      unfold lU
      by_cases g:k=0
      · subst g
        rw [dF (by omega),cF]
        exact ⟨_,rfl,h3,h4⟩
      · have e1:((k:Int) - 1).toNat=k - 1:=by omega
        have hm:=Nat.mod_lt (a*x) hp.pos
        have hfk:=hf (k - 1) (by omega)
        rw [dT (by omega),cT,jI hp h3 hx,bS,aQ 0 (by omega) (by omega),bS,e1,sL hp (by omega),bS,cN (by omega) (by omega),bS]
        refine ⟨_,rfl,⟨k - 1,by show (k:Int) - 1 - 1=_;omega,by omega,Nat.mod_lt _ hp.pos,?_⟩,by show ((k:Int) - 1 - 1+1).toNat < ((k:Int) - 1+1).toNat;omega⟩
        show o p _=_
        have ed:f.drop (k - 1)=f.getD (k - 1) 0 :: f.drop k:=by
          rw [List.drop_eq_getElem_cons (show k - 1 < f.length by omega),show k - 1+1=k by omega,List.getD_eq_getElem?_getD,List.getElem?_eq_getElem (by omega)];rfl
        rw [ed,kK,vA,kK,nZ,h4]
        show _=o p _+o p x*dy (P p (f.drop k)) (o p x)
        grind)
    (s:=(0,((f.length:Nat):Int) - 1)) ⟨f.length,rfl,Nat.le_refl _,hp.pos,by
      show o p 0=_
      rw [List.drop_length,kO];rfl⟩ (by show ((f.length:Int) - 1+1).toNat < _;omega)
  rw [e,bS]
  exact ⟨r,rfl,h1,h2⟩
end
theorem wQ {p:Nat} {l:List Nat} {i v:Nat} (h:Lt p l) (hv:v < p):Lt p (l.set i v):=fun j hj=>by
  rw [List.length_set] at hj
  by_cases g:i < l.length
  · rw [aN g];split
    · exact hv
    · exact h j hj
  · rw [List.set_eq_of_length_le (by omega)];exact h j hj
section
variable {p:Nat} [NeZero p]
end
end Pu

/- Plain laws of the decoder of Reed and Solomon. -/
set_option linter.unusedVariables false
namespace Pu
open Gw Gl Sp Lean.Grind
instance:Inhabited bP:=⟨⟨0,0⟩⟩
section
variable {p:Nat} [NeZero p]
end
end Pu

/- Plain laws of the network: deviations, messages, views. -/
set_option linter.unusedVariables false
namespace Pu
open Gw Gl Sp
instance:Inhabited aS:=⟨⟨0,0,0,0,0,0,0,0⟩⟩
instance:Inhabited ao:=⟨⟨0,0,[]⟩⟩
/-- what a valid scenario says -/
structure Sc (w:ab) (n t:Nat):Prop where
  sup:fM w.S.P
  N:w.S.N=n
  T:w.S.T=t
  n4:4≤n
  n13:n≤13
  t1:1≤t
  t3:3*t < n
  cl:w.af.length≤t
  cr:∀ x ∈ w.af,1≤x∧x≤n
  dl:w.aa.length≤40
  dv:∀ x ∈ w.aa,1≤x.From∧x.From≤n∧0≤x.At∧0≤x.bm∧0≤x.Of∧x.Of≤n∧(x.Kind=3→1≤x.Of)∧x.K < 18446744073709551616
theorem nB {l:List Int} {v:Int}:cS l v=some (decide (v ∈ l)):=by
  unfold cS jN
  rw [Nat.sub_zero]
  obtain ⟨o,e,ho⟩:=ef (body:=fun k1 (st:Unit)=>iI l v k1) (fun k _=>∀ i,i < k→l.getD i 0≠v) (fun r=>0≤r∧v ∈ l) (rem:=l.length) (k:=0) (s:=()) (fun i hi=>by omega) (fun k _ _ hk h=>by
    unfold iI
    have hkl:k < l.length:=by omega
    rw [ix 0 hkl,bS]
    by_cases g:v=l.getD k 0
    · rw [eT g,cT]
      refine ⟨_,rfl,by omega,?_⟩
      rw [g,List.getD_eq_getElem?_getD,List.getElem?_eq_getElem hkl]
      exact List.getElem_mem hkl
    · rw [eF g,cF]
      refine ⟨_,rfl,fun i hi=>?_⟩
      by_cases e:i=k
      · subst e;exact fun z=>g z.symm
      · exact h i (by omega))
  rw [e,bS]
  cases o with
  | fin r=>rw [oF,bS,dT ho.1,dT ho.2]
  | go s =>
    rw [oG,bS,dF (by omega),dF]
    intro hv
    obtain ⟨i,hi,rfl⟩:=List.getElem_of_mem hv
    apply ho i (by omega)
    rw [List.getD_eq_getElem?_getD,List.getElem?_eq_getElem hi];rfl
theorem Hw {l:List Nat} {i:Int} (h:l.length≤1000):∃ x,j7 l i=some x∧∀ p,0 < p→Lt p l→x < p:=by
  unfold j7
  by_cases g:i < 0
  · rw [dT g,cT];exact ⟨0,rfl,fun p hp _=>hp⟩
  · rw [dF g,cF]
    by_cases g2:i < l.length
    · rw [dF (by omega),cF,aQ 0 (by omega) g2,bS]
      exact ⟨_,rfl,fun p hp hl=>hl _ (by omega)⟩
    · rw [dT (by omega),cT];exact ⟨0,rfl,fun p hp _=>hp⟩
theorem A8 {w:ab} {n t:Nat} (s:Sc w n t) {x:aS} {l said:List Nat} (hx:x ∈ w.aa) (hl:Lt w.S.P l) (hll:l.length≤1000) (hs:Lt w.S.P said) (hsl:said.length≤1000) :
    ∃ r,j6 w x l said=some r∧Lt w.S.P r∧r.length≤l.length:=by
  have hp:=s.sup
  have hlt:=hp.lt
  obtain ⟨d1,d2,d3,d4,d5,d6,d7,d8⟩:=s.dv x hx
  unfold j6
  by_cases k4:x.Kind=4
  · rw [eT k4,cT];exact ⟨_,rfl,fun i hi=>by simp at hi,by simp⟩
  · rw [eF k4,cF]
    by_cases ha:x.At < (l.length:Int)
    · have hk:=Nat.mod_lt x.K hp.pos
      have hat:x.At.toNat < l.length:=by omega
      have hla:=hl _ hat
      rw [dF (by omega),cF,BZ hp d8,bS,tc (by omega),bS]
      by_cases k1:x.Kind=1
      · rw [eT k1,cT,aQ 0 d3 ha,bS,bS]
        exact ⟨_,rfl,wQ hl hk,by simp⟩
      · rw [eF k1,cF]
        by_cases k2:x.Kind=2
        · rw [eT k2,cT,aQ 0 d3 ha,bS,sL hp (by omega),bS,bS]
          exact ⟨_,rfl,wQ hl (Nat.mod_lt _ hp.pos),by simp⟩
        · rw [eF k2,cF]
          by_cases k3:x.Kind=3
          · rw [eT k3,cT,nB,bS]
            obtain ⟨y,ey,hy⟩:=Hw (l:=said) (i:=x.bm) (by omega)
            obtain ⟨z,ez,hz⟩:∃ z,(bif !(decide (x.Of ∈ w.af)) then j7 said x.bm >>= fun r5=>some r5 else some 0)=some z∧z < w.S.P:=by
              cases decide (x.Of ∈ w.af) with
              | false=>rw [nF,cT,ey,bS];exact ⟨_,rfl,hy _ hp.pos hs⟩
              | true=>rw [nT,cF];exact ⟨_,rfl,hp.pos⟩
            have hm:=Nat.mod_lt (x.K % w.S.P*z) hp.pos
            rw [ez,bS,aQ 0 d3 ha,bS,jI hp hk hz,bS,sL hp (by omega),bS,bS]
            exact ⟨_,rfl,wQ hl (Nat.mod_lt _ hp.pos),by simp⟩
          · rw [eF k3,cF];exact ⟨_,rfl,hl,Nat.le_refl _⟩
    · rw [dT (by omega),cT];exact ⟨_,rfl,hl,Nat.le_refl _⟩
/-- messages between n parties: at most L words each, below p -/
structure Sq (p n L:Nat) (m:List (List (List Nat))):Prop where
  len:m.length=n
  row:∀ i,i < n→(m.getD i []).length=n
  w:∀ i,i < n→∀ j,j < n→Lt p ((m.getD i []).getD j [])∧((m.getD i []).getD j []).length≤L
theorem Sq.s1 {p n L i:Nat} {m:List (List (List Nat))} (s:Sq p n L m) (hi:i < n):m[i]?=some (m.getD i []):=ix [] (by rw [s.len];exact hi)
theorem Sq.s2 {p n L i j:Nat} {m:List (List (List Nat))} (s:Sq p n L m) (hi:i < n) (hj:j < n):(m.getD i [])[j]?=some ((m.getD i []).getD j []):=ix [] (by rw [s.row i hi];exact hj)
theorem Sq.setW {p n L i j:Nat} {m:List (List (List Nat))} {r:List Nat} (s:Sq p n L m) (hi:i < n) (hj:j < n) (hr:Lt p r∧r.length≤L):Sq p n L (m.set i ((m.getD i []).set j r)):=by
  have hil:i < m.length:=by rw [s.len];exact hi
  refine ⟨by rw [List.length_set];exact s.len,fun k hk=>?_,fun k hk q hq=>?_⟩
  · rw [aN hil];split
    · rw [List.length_set];exact s.row i hi
    · exact s.row k hk
  · rw [aN hil];split
    · rw [aN (by rw [s.row i hi];exact hj)];split
      · exact hr
      · exact s.w i hi q hq
    · exact s.w k hk q hq
/-- the deviations of a round -/
theorem Cj {w:ab} {n t L:Nat} (s:Sc w n t) {out:List (List (List Nat))} {round:Int} (ho:Sq w.S.P n L out) (hL:L≤1000) :
    ∃ all,bE w round out=some all∧(Sq w.S.P n L all∧∀ i,i < n→∀ j,j < n→((all.getD i []).getD j []).length≤((out.getD i []).getD j []).length)∧∀ i,i < n→(((i:Nat):Int)+1) ∉ w.af→all.getD i []=out.getD i []:=by
  have h13:=s.n13
  unfold bE
  rw [ho.len,cV (by omega) (by omega) (by omega) (by omega),bS,Nat.sub_zero,Int.toNat_natCast]
  obtain ⟨l3,e3,h1,h2⟩:=bj (body:=fun k1 (st:(List (List (List Nat))))=>dA out k1 st) (rem:=n) (k:=0) (s:=List.replicate n [])
    (fun k l=>l.length=n∧∀ i,i < k→l.getD i []=out.getD i []) ⟨by simp,fun i hi=>by omega⟩ (fun k l _ hk ⟨h1,h2⟩=>by
      have hk':k < n:=by omega
      unfold dA
      rw [ho.s1 hk',bS,p6 (by rw [ho.row k hk'];omega),bS,ix [] (by omega),bS,bS]
      refine ⟨_,rfl,by rw [List.length_set];exact h1,fun i hi=>?_⟩
      rw [aN (by omega)]
      by_cases g:k=i
      · rw [if_pos g,g]
      · rw [if_neg g];exact h2 i (by omega))
  have hl3:l3=out:=by
    apply List.ext_getElem?
    intro i
    by_cases g:i < n
    · rw [ix [] (by omega),ix [] (by rw [ho.len];omega),h2 i (by omega)]
    · rw [List.getElem?_eq_none (by omega),List.getElem?_eq_none (by rw [ho.len];omega)]
  subst hl3
  rw [e3,bS,Nat.sub_zero]
  obtain ⟨all,e,k1,k2⟩:=bj (body:=fun k2 (st:(List (List (List Nat))))=>gn w round l3 k2 st) (rem:=w.aa.length) (k:=0) (s:=l3)
    (fun _ all=>(Sq w.S.P n L all∧∀ i,i < n→∀ j,j < n→((all.getD i []).getD j []).length≤((l3.getD i []).getD j []).length)∧∀ i,i < n→(((i:Nat):Int)+1) ∉ w.af→all.getD i []=l3.getD i []) ⟨⟨ho,fun _ _ _ _=>Nat.le_refl _⟩,fun _ _ _=>rfl⟩ (fun k all _ hk ⟨⟨k1,kl⟩,k2⟩=>by
      have hkd:k < w.aa.length:=by omega
      unfold gn
      rw [ix default hkd,bS]
      have hx:w.aa.getD k default ∈ w.aa:=by
        rw [List.getD_eq_getElem?_getD,List.getElem?_eq_getElem hkd];exact List.getElem_mem hkd
      generalize w.aa.getD k default=x at hx
      obtain ⟨d1,d2,d3,d4,d5,d6,d7,d8⟩:=s.dv x hx
      unfold j5
      by_cases g:x.Round=round∧x.From ∈ w.af
      · rw [eT g.1,cT,nB,bS,bS,dT g.2,nT,cF]
        have hf:x.From.toNat - 1 < n:=by omega
        have hfe:(x.From - 1).toNat=x.From.toNat - 1:=by omega
        obtain ⟨said,es,hs1,hs2⟩:∃ said,(bif x.Kind == (3:Int) then
            lg x.Of (1:Int) >>= fun x6=>ie l3 x6 >>= fun x7=>lg x.From (1:Int) >>= fun x8=>ie x7 x8 >>= fun x9=>some x9
          else some ([]:List Nat))=some said∧Lt w.S.P said∧said.length≤1000:=by
          by_cases k3:x.Kind=3
          · have h7:=d7 k3
            have hoe:(x.Of - 1).toNat < n:=by omega
            rw [eT k3,cT,cN (by omega) (by omega),bS,aQ [] (by omega) (by rw [ho.len];omega),bS,cN (by omega) (by omega),bS,aQ [] (by omega) (by rw [ho.row _ hoe];omega),bS]
            have:=ho.w _ hoe (x.From - 1).toNat (by omega)
            exact ⟨_,rfl,this.1,by omega⟩
          · rw [eF k3,cF];exact ⟨_,rfl,fun i hi=>by simp at hi,by simp⟩
        rw [es,bS,cN (by omega) (by omega),bS,aQ [] (by omega) (by rw [k1.len];omega),bS,hfe,k1.row _ hf,bZ (by omega),bS,Nat.sub_zero]
        obtain ⟨all',e',q1,q2⟩:=bj (body:=fun k3 (st:(List (List (List Nat))))=>gp w x said (x.From - 1) k3 st) (rem:=n) (k:=0) (s:=all)
          (fun _ a=>(Sq w.S.P n L a∧∀ i,i < n→∀ j,j < n→((a.getD i []).getD j []).length≤((l3.getD i []).getD j []).length)∧∀ i,i < n→i≠x.From.toNat - 1→a.getD i []=all.getD i []) ⟨⟨k1,kl⟩,fun _ _ _=>rfl⟩ (fun j a _ hj ⟨⟨q1,ql⟩,q2⟩=>by
            have hjn:j < n:=by omega
            unfold gp
            rw [bd (by omega) (by omega),bS]
            have:∃ b,(bif (((j:Nat):Int)+1) != x.From then bif x.To == (0:Int) then some true else some (x.To == (((j:Nat):Int)+1)) else some false)=some b:=by
              by_cases g1:((j:Nat):Int)+1=x.From
              · rw [qF g1,cF];exact ⟨_,rfl⟩
              · rw [qT g1,cT]
                by_cases g2:x.To=0
                · rw [eT g2,cT];exact ⟨_,rfl⟩
                · rw [eF g2,cF];exact ⟨_,rfl⟩
            obtain ⟨b,eb⟩:=this
            rw [eb,bS]
            cases b with
            | false=>rw [cF];exact ⟨_,rfl,⟨q1,ql⟩,q2⟩
            | true =>
              rw [cT,aQ [] (by omega) (by rw [q1.len];omega),bS,hfe,q1.s2 hf hjn,bS]
              obtain ⟨hw1,hw2⟩:=q1.w _ hf j hjn
              obtain ⟨r,er,r1,r2⟩:=A8 s hx hw1 (by omega) hs1 hs2
              rw [er,bS,bS,bS]
              have hql:=ql _ hf j hjn
              refine ⟨_,rfl,⟨q1.setW hf hjn ⟨r1,by omega⟩,fun i hi j' hj'=>?_⟩,fun i hi hne=>?_⟩
              · rw [aN (by rw [q1.len];exact hf)]
                by_cases g:x.From.toNat - 1=i
                · rw [if_pos g,aN (by rw [q1.row _ hf];exact hjn),← g]
                  by_cases g':j=j'
                  · rw [if_pos g',← g'];omega
                  · rw [if_neg g'];exact ql _ hf j' hj'
                · rw [if_neg g];exact ql i hi j' hj'
              rw [aN (by rw [q1.len];exact hf),if_neg (fun e=>hne e.symm)];exact q2 i hi hne)
        rw [e',bS]
        refine ⟨_,rfl,q1,fun i hi hc=>?_⟩
        rw [q2 i hi (fun e => hc (by rw [e]; have : ((x.From.toNat - 1 : Nat) : Int) + 1 = x.From := by omega
                                     rw [this];exact g.2))]
        exact k2 i hi hc
      · have:(bif x.Round == round then cS w.af x.From >>= fun r1=>some r1 else some false)=some false:=by
          by_cases g1:x.Round=round
          · rw [eT g1,cT,nB,bS,dF (fun h=>g ⟨g1,h⟩)]
          · rw [eF g1,cF]
        rw [this,bS,nF,cT]
        exact ⟨_,rfl,⟨k1,kl⟩,k2⟩)
  rw [e,bS]
  exact ⟨_,rfl,k1,k2⟩
/-- what a party receives in a round, as its view has it -/
def Aj (round:Int) (all:List (List (List Nat))) (j k:Nat):List ao :=
  ((List.range k).filter fun i=>decide (i≠j∧0 < ((all.getD i []).getD j []).length)).map fun i=>⟨round,((i:Nat):Int)+1,(all.getD i []).getD j []⟩
theorem Ak {round:Int} {all:List (List (List Nat))} {j k:Nat}:(Aj round all j k).length≤k:=by
  unfold Aj;rw [List.length_map];exact Nat.le_trans (List.length_filter_le ..) (by simp)
theorem CJ {round:Int} {all:List (List (List Nat))} {j k:Nat}:Aj round all j (k+1)=Aj round all j k++if k≠j∧0 < ((all.getD k []).getD j []).length then [⟨round,((k:Nat):Int)+1,(all.getD k []).getD j []⟩] else []:=by
  unfold Aj
  rw [List.range_succ,List.filter_append,List.map_append]
  congr 1
  by_cases g:k≠j∧0 < ((all.getD k []).getD j []).length
  · rw [if_pos g];simp only [List.filter_cons,decide_eq_true g,List.filter_nil];simp
  · rw [if_neg g];simp only [List.filter_cons,decide_eq_false g,List.filter_nil];simp
theorem AU {net:au} {j k:Nat} {l:List Nat} (hv:j < net.av.length) (hl:l.length≤1000) (hb:(net.av.getD j []).length≤1000) (hk:k≤1000) :
    i5 net ((j:Nat):Int) ((k:Nat):Int) l=some (if k≠j∧0 < l.length then net.av.set j (net.av.getD j []++[⟨net.ah,((k:Nat):Int)+1,l⟩]) else net.av):=by
  unfold i5
  by_cases g:j=k
  · rw [qF (by omega),cF,bS,cF,if_neg (by omega)]
  · rw [qT (by omega),cT]
    by_cases g2:0 < l.length
    · rw [dT (by omega),bS,cT,aQ [] (by omega) (by omega),bS,bd (by omega) (by omega),bS,aO (by simp;omega) (by simp;omega),bS,List.nil_append]
      simp only [Int.toNat_natCast]
      rw [aO (by simp only [List.length_cons,List.length_nil];omega) (by simp only [List.length_cons,List.length_nil];omega),bS,bS,if_pos ⟨fun e=>g e.symm,g2⟩]
    · rw [dF (by omega),bS,cF,if_neg (fun h=>g2 h.2)]
/-- a round -/
theorem A2 {net:au} {n t L:Nat} (s:Sc net.zw n t) {out:List (List (List Nat))} (ho:Sq net.zw.S.P n L out) (hL:L≤1000) (hv:net.av.length=n) (hb:∀ j,j < n→(net.av.getD j []).length≤500) (hr:0≤net.ah∧net.ah≤1000) :
    ∃ all inn views,bE net.zw net.ah out=some all∧i4 net out=some (inn,net.ah+1,views)∧(Sq net.zw.S.P n L all∧∀ i,i < n→∀ j,j < n→((all.getD i []).getD j []).length≤((out.getD i []).getD j []).length)∧(∀ i,i < n→(((i:Nat):Int)+1) ∉ net.zw.af→all.getD i []=out.getD i []) ∧
      inn.length=n∧(∀ j,j < n→(inn.getD j []).length=n∧∀ i,i < n→(inn.getD j []).getD i []=(all.getD i []).getD j [])∧views.length=n∧∀ j,j < n→views.getD j []=net.av.getD j []++Aj net.ah all j n:=by
  have h13:=s.n13
  obtain ⟨all,ea,⟨q1,ql⟩,q2⟩:=Cj (round:=net.ah) s ho hL
  unfold i4
  rw [ea,bS,s.N,cV (by omega) (by omega) (by omega) (by omega),bS,Int.toNat_natCast,List.length_replicate,Nat.sub_zero]
  obtain ⟨⟨views,inn⟩,e,h1,h2,h3,h4,h5,h6⟩:=bj (body:=fun k1 (st:(List (List ao)) × (List (List (List Nat))))=>gy net all k1 st.1 st.2) (rem:=n) (k:=0) (s:=(net.av,List.replicate n []))
    (fun k st=>st.1.length=n∧st.2.length=n∧(∀ j,j < k→st.1.getD j []=net.av.getD j []++Aj net.ah all j n)∧(∀ j,k≤j→st.1.getD j []=net.av.getD j [])∧(∀ j,j < k→(st.2.getD j []).length=n∧∀ i,i < n→(st.2.getD j []).getD i []=(all.getD i []).getD j [])∧(∀ j,k≤j→st.2.getD j []=[]))
    ⟨hv,by simp,fun j hj=>by omega,fun _ _=>rfl,fun j hj=>by omega,fun j _=>by by_cases g:j < n <;> simp [List.getD_eq_getElem?_getD,g]⟩ (fun j st _ hj ⟨h1,h2,h3,h4,h5,h6⟩=>by
      have hjn:j < n:=by omega
      unfold gy
      have hmx:max 0 net.zw.S.N.toNat=n:=by rw [s.N];simp
      rw [hmx,bZ (by omega),bS,Nat.sub_zero]
      obtain ⟨⟨v',i'⟩,e',g1,g2,g3,g4,g5,g6,g7⟩:=bj (body:=fun k2 (st:(List (List ao)) × (List (List (List Nat))))=>gz net all j k2 st.1 st.2) (rem:=n) (k:=0) (s:=(st.1,st.2))
        (fun k q=>q.1.length=n∧q.2.length=n∧q.1.getD j []=net.av.getD j []++Aj net.ah all j k∧(∀ i,i≠j→q.1.getD i []=st.1.getD i [])∧(q.2.getD j []).length=k∧(∀ i,i < k→(q.2.getD j []).getD i []=(all.getD i []).getD j [])∧(∀ i,i≠j→q.2.getD i []=st.2.getD i []))
        ⟨h1,h2,by rw [h4 j (Nat.le_refl j)];simp [Aj],fun _ _=>rfl,by rw [h6 j (Nat.le_refl j)];rfl,fun i hi=>by omega,fun _ _=>rfl⟩ (fun k q _ hk ⟨g1,g2,g3,g4,g5,g6,g7⟩=>by
          have hkn:k < n:=by omega
          obtain ⟨w1,w2⟩:=q1.w k hkn j hjn
          have hel:=Ak (round:=net.ah) (all:=all) (j:=j) (k:=k)
          have hbj:=hb j hjn
          have hq1:(q.1.getD j []).length≤600:=by rw [g3,List.length_append];omega
          unfold gz
          rw [q1.s1 hkn,bS,q1.s2 hkn hjn,bS,aO (by simp only [List.length_nil];omega) (by simp only [List.length_nil];omega),bS,List.nil_append,ix [] (by omega),bS,aO (by rw [g5];simp;omega) (by rw [g5];simp;omega),bS,bS,AU (net:=⟨net.zw,net.ah,q.1,net.ap⟩) (by show j < q.1.length;omega) (by omega) (by show (q.1.getD j []).length≤1000;omega) (by omega),bS]
          refine ⟨_,rfl,?_,by show (q.2.set j _).length=n;rw [List.length_set];exact g2,?_,fun i hi=>?_,?_,fun i hi=>?_,fun i hi=>?_⟩
          · show (if _ then q.1.set j _ else q.1).length=n
            split
            · rw [List.length_set];exact g1
            · exact g1
          · show (if _ then q.1.set j _ else q.1).getD j []=_
            rw [CJ]
            split
            · rw [aN (by omega),if_pos rfl,g3,List.append_assoc]
            · rw [List.append_nil];exact g3
          · show (if _ then q.1.set j _ else q.1).getD i []=_
            split
            · rw [aN (by omega),if_neg (fun e=>hi e.symm)];exact g4 i hi
            · exact g4 i hi
          · show ((q.2.set j _).getD j []).length=_
            rw [aN (by omega),if_pos rfl,List.length_append,g5];rfl
          · show ((q.2.set j _).getD j []).getD i []=_
            rw [aN (by omega),if_pos rfl]
            by_cases g:i < k
            · rw [da (by omega)];exact g6 i g
            · have:i=k:=by omega
              subst this
              exact eG g5.symm
          · show (q.2.set j _).getD i []=_
            rw [aN (by omega),if_neg (fun e=>hi e.symm)];exact g7 i hi)
      rw [Nat.zero_add] at g3 g5 g6
      simp only at g1 g2 g3 g4 g5 g6 g7
      rw [e',bS]
      refine ⟨_,rfl,g1,g2,fun i hi=>?_,fun i hi=>?_,fun i hi=>?_,fun i hi=>?_⟩
      · by_cases g:i=j
        · subst g;exact g3
        · show v'.getD i []=_;rw [g4 i g];exact h3 i (by omega)
      · show v'.getD i []=_;rw [g4 i (by omega)];exact h4 i (by omega)
      · by_cases g:i=j
        · subst g;exact ⟨g5,g6⟩
        · show (i'.getD i []).length=n∧_
          simp only
          rw [g7 i g];exact h5 i (by omega)
      · show i'.getD i []=_;rw [g7 i (by omega)];exact h6 i (by omega))
  rw [Nat.zero_add] at h3 h5
  simp only at h1 h2 h3 h5
  rw [e,bS]
  simp only
  rw [bd (by omega) (by omega),bS]
  exact ⟨_,_,_,rfl,rfl,⟨q1,ql⟩,q2,h2,h5,h1,h3⟩
theorem qf {l:List Nat} {m:Nat} (hm:m≤1000):∃ r,e6 l ((m:Nat):Int)=some r∧r.length=m∧∀ k,k < m→r.getD k 0=l.getD k 0:=by
  unfold e6
  rw [cV (by omega) (by omega) (by omega) (by omega),bS,Int.toNat_natCast]
  refine ⟨_,rfl,by unfold sE;simp;omega,fun k hk=>?_⟩
  unfold sE
  rw [List.length_replicate]
  by_cases g:k < l.length
  · rw [da (by simp;omega),List.getD_eq_getElem?_getD,List.getElem?_take,if_pos (by omega),← List.getD_eq_getElem?_getD]
  · rw [qx (l:=l) (by omega),List.getD_eq_getElem?_getD,List.getElem?_append_right (by simp;omega),List.getElem?_drop]
    have:(min l.length m+(k - (l.take (min l.length m)).length)) < m:=by simp;omega
    rw [List.getElem?_replicate,if_pos this];rfl
end Pu

/- Plain laws of scenarios: what the reference calls valid the program calls valid, and the networks stand. -/
set_option linter.unusedVariables false
namespace Pu
open Gw Gl Sp
structure Va (w:ab) (n t:Nat):Prop extends Sc w n t where
  ord:∀ i,0 < i→i < w.af.length→w.af.getD (i - 1) 0 < w.af.getD i 0
  tl:w.ax.length=n
  tb:∀ i,i < n→∀ j,j < (w.ax.getD i []).length→(w.ax.getD i []).getD j 0 < w.S.P
  ts:∀ i,i < n→(w.ax.getD i []).length≤1000
  full:∀ x ∈ w.aa,0≤x.Round∧0≤x.To∧x.To≤n∧1≤x.Kind∧x.Kind≤4
theorem CK {p:Nat} {l:List Int} {j:Nat} {x:Int} (hl:l[j]?=some x) (hx:5≤x∧x≤61):fO p l j=some (if p=2 ^ x.toNat - 1 then .fin x else .go ()):=by
  unfold fO
  obtain ⟨q,rfl⟩:∃ q:Nat,x=q:=⟨x.toNat,by omega⟩
  have hq:q≤61:=by omega
  have hu:sj ((q:Nat):Int)=q:=by unfold sj;omega
  have h2:2 ^ q≤2 ^ 61:=Nat.pow_le_pow_right (by decide) hq
  have h3:1≤2 ^ q:=Nat.one_le_two_pow
  rw [hl,bS,hu,bS,wI (by omega),bS,Nat.one_mul,Nat.mod_eq_of_lt (by omega),u5 h3 (by omega),bS,Int.toNat_natCast]
  by_cases g:p=2 ^ q - 1
  · rw [zz g,cT,if_pos g]
  · rw [Mi g,cF,if_neg g]
theorem Jw {p:Nat} {x:Int} (h:x ∈ ([5,7,13,17,19,31,61]:List Int)) (e:p=2 ^ x.toNat - 1):fM p:=by
  simp only [List.mem_cons,List.not_mem_nil,or_false] at h
  unfold fM
  rcases h with rfl | rfl | rfl | rfl | rfl | rfl | rfl <;> simp at e <;> omega
theorem Jr {p:Nat}:∃ b,gG p=some b∧(b=true→fM p):=by
  unfold gG jJ
  have he:lV=some [5,7,13,17,19,31,61]:=rfl
  rw [he,bS]
  obtain ⟨o,e,ho⟩:=ef (body:=fun k1 (st:Unit)=>fO p [5,7,13,17,19,31,61] k1) (fun _ _=>True) (fun r=>fM p) (rem:=([5,7,13,17,19,31,61]:List Int).length - 0) (k:=0) (s:=()) trivial (fun j _ _ hj _=>by
    have hj':j < 7:=by simpa using hj
    obtain ⟨x,hx,hm⟩:∃ x,([5,7,13,17,19,31,61]:List Int)[j]?=some x∧x ∈ ([5,7,13,17,19,31,61]:List Int):=⟨_,List.getElem?_eq_getElem (by simpa using hj'),List.getElem_mem _⟩
    have hb:5≤x∧x≤61:=by
      simp only [List.mem_cons,List.not_mem_nil,or_false] at hm
      rcases hm with rfl | rfl | rfl | rfl | rfl | rfl | rfl <;> decide
    rw [CK hx hb]
    refine ⟨_,rfl,?_⟩
    split
    · next g=>exact Jw hm g
    · trivial)
  rw [e]
  simp only [bS]
  cases o with
  | fin r=>rw [oF];simp only [bS];exact ⟨_,rfl,fun _=>ho⟩
  | go s=>rw [oG];simp only [bS];exact ⟨_,rfl,fun h=>by simp at h⟩
theorem IX {p:Nat} (hp:fM p):nR p=some true:=by
  rcases hp with rfl | rfl | rfl | rfl | rfl | rfl | rfl <;> decide +kernel
structure JQ (s:aL) (n t:Nat):Prop where
  sup:fM s.P
  N:s.N=n
  T:s.T=t
  n4:4≤n
  n13:n≤13
  t1:1≤t
  t3:3*t < n
theorem yK {s:aL}:∃ b,gV s=some b∧(b=true→∃ n t,JQ s n t):=by
  unfold gV
  obtain ⟨b,e,hb⟩:=Jr (p:=s.P)
  rw [e,bS]
  cases b with
  | false=>rw [cF];exact ⟨_,rfl,fun h=>by cases h⟩
  | true =>
    rw [cT]
    have hp:=hb rfl
    by_cases h1:s.N ≥ 4
    · rw [dT h1,cT]
      by_cases h2:s.N≤13
      · rw [dT h2,cT,bS]
        by_cases h3:((sj s.N:Nat):Int) < ((s.P:Nat):Int)
        · rw [dT h3,cT]
          by_cases h4:s.T ≥ 1
          · rw [dT h4,cT]
            by_cases h5:s.T < s.N
            · rw [dT h5,cT,fk (by omega) (by omega),bS]
              refine ⟨_,rfl,fun h=>?_⟩
              have h6:=of_decide_eq_true h
              exact ⟨s.N.toNat,s.T.toNat,hp,by omega,by omega,by omega,by omega,by omega,by omega⟩
            · rw [dF h5,cF];exact ⟨_,rfl,fun h=>by cases h⟩
          · rw [dF h4,cF];exact ⟨_,rfl,fun h=>by cases h⟩
        · rw [dF h3,cF];exact ⟨_,rfl,fun h=>by cases h⟩
      · rw [dF h2,cF];exact ⟨_,rfl,fun h=>by cases h⟩
    · rw [dF h1,cF];exact ⟨_,rfl,fun h=>by cases h⟩
theorem Da {s:aL} {n t:Nat} (h:JQ s n t):oe s=some true:=by
  have h1:=h.n4;have h2:=h.n13;have h3:=h.t1;have h4:=h.t3;have h5:=h.sup.lt
  unfold oe
  have hu:sj ((n:Nat):Int)=n:=by unfold sj;omega
  rw [IX h.sup,bS,cT,h.N,h.T,dT (by omega),cT,dT (by omega),cT,bS,hu,dT (by omega),cT,dT (by omega),cT,dT (by omega),cT,fk (by omega) (by omega),bS,dT (by omega)]
theorem Ha {s:aL} {l:List Int}:∃ b,eV s l=some b∧(b=true→∃ n t,JQ s n t∧l.length≤t∧(∀ x ∈ l,1≤x∧x≤n)∧∀ i,0 < i→i < l.length→l.getD (i - 1) 0 < l.getD i 0):=by
  unfold eV
  obtain ⟨b,e,hb⟩:=yK (s:=s)
  rw [e,bS]
  cases b with
  | false=>rw [nF,cT,bS,cT];exact ⟨_,rfl,fun h=>by cases h⟩
  | true =>
    obtain ⟨n,t,par⟩:=hb rfl
    have hT:=par.T;have hN:=par.N;have h13:=par.n13;have h3:=par.t3
    rw [nT,cF,bS]
    by_cases g:l.length≤t
    · rw [dF (by omega),cF,Nat.sub_zero]
      obtain ⟨o,e,ho⟩:=ef (body:=fun k1 (st:Unit)=>fI s l k1) (fun k _=>∀ i,i < k→(1≤l.getD i 0∧l.getD i 0≤n)∧(0 < i→l.getD (i - 1) 0 < l.getD i 0)) (fun r=>r=false) (rem:=l.length) (k:=0) (s:=()) (fun i hi=>by omega) (fun k _ _ hk h=>by
        have hkl:k < l.length:=by omega
        unfold fI
        rw [ix 0 hkl,bS,hN]
        by_cases c1:l.getD k 0 < 1
        · rw [dT c1,cT];exact ⟨_,rfl,rfl⟩
        · rw [dF c1,cF]
          by_cases c2:l.getD k 0 > n
          · rw [dT c2,cT];exact ⟨_,rfl,rfl⟩
          · rw [dF c2,cF]
            by_cases c3:((k:Nat):Int) > 0
            · have e1:(((k:Nat):Int) - 1).toNat=k - 1:=by omega
              rw [dT c3,cT,cN (by omega) (by omega),bS,aQ 0 (by omega) (by omega),bS,e1]
              by_cases c4:l.getD k 0≤l.getD (k - 1) 0
              · rw [dT c4,cT];exact ⟨_,rfl,rfl⟩
              · rw [dF c4,cF]
                refine ⟨_,rfl,fun i hi=>?_⟩
                by_cases g:i=k
                · subst g;exact ⟨⟨by omega,by omega⟩,fun _=>by omega⟩
                · exact h i (by omega)
            · rw [dF c3,cF]
              refine ⟨_,rfl,fun i hi=>?_⟩
              by_cases g:i=k
              · subst g;exact ⟨⟨by omega,by omega⟩,fun _=>by omega⟩
              · exact h i (by omega))
      rw [e,bS]
      cases o with
      | fin r=>rw [oF];exact ⟨_,rfl,fun h=>by rw [ho] at h;cases h⟩
      | go _ =>
        rw [oG]
        rw [Nat.zero_add] at ho
        refine ⟨_,rfl,fun _=>⟨n,t,par,g,fun x hx=>?_,fun i h1 h2=>(ho i h2).2 h1⟩⟩
        obtain ⟨i,hi,rfl⟩:=List.getElem_of_mem hx
        have:=(ho i hi).1
        rw [List.getD_eq_getElem?_getD,List.getElem?_eq_getElem hi] at this
        exact this
    · rw [dT (by omega),cT];exact ⟨_,rfl,fun h=>by cases h⟩
theorem GL {s:aL} {l:List Int} {n t:Nat} (par:JQ s n t) (hl:l.length≤t) (hr:∀ x ∈ l,1≤x∧x≤n) (ho:∀ i,0 < i→i < l.length→l.getD (i - 1) 0 < l.getD i 0):hJ s l=some true:=by
  have hT:=par.T;have hN:=par.N;have h13:=par.n13;have h3:=par.t3
  unfold hJ
  rw [Da par,bS,nT,cF,bS,hT,dF (by omega),cF,Nat.sub_zero]
  obtain ⟨o,e,hq⟩:=ef (body:=fun k1 (st:Unit)=>iG s l k1) (fun _ _=>True) (fun _=>False) (rem:=l.length) (k:=0) (s:=()) trivial (fun k _ _ hk _=>by
    have hkl:k < l.length:=by omega
    have hm:l.getD k 0 ∈ l:=by rw [List.getD_eq_getElem?_getD,List.getElem?_eq_getElem hkl];exact List.getElem_mem hkl
    have hx:=hr _ hm
    unfold iG
    rw [ix 0 hkl,bS,hN,dF (by omega),cF,dF (by omega),cF]
    by_cases c3:((k:Nat):Int) > 0
    · have e1:(((k:Nat):Int) - 1).toNat=k - 1:=by omega
      have:=ho k (by omega) hkl
      rw [dT c3,cT,cN (by omega) (by omega),bS,aQ 0 (by omega) (by omega),bS,e1,dF (by omega),cF]
      exact ⟨_,rfl,trivial⟩
    · rw [dF c3,cF];exact ⟨_,rfl,trivial⟩)
  rw [e,bS]
  cases o with
  | fin r=>exact hq.elim
  | go _=>rw [oG]
/-- a valid deviation -/
def Dv (s:aL) (x:aS):Prop:=0≤x.Round∧0≤x.At∧0≤x.bm∧1≤x.From∧x.From≤s.N∧0≤x.To∧x.To≤s.N∧1≤x.Kind∧x.Kind≤4∧0≤x.Of∧x.Of≤s.N∧(x.Kind=3→1≤x.Of)
theorem bC {c:Prop} [Decidable c] {X:Option Bool} {Q:Prop} (h:c→∃ b,X=some b∧(b=true→Q)):∃ b,(bif decide c then X else some false)=some b∧(b=true→Q):=by
  by_cases g:c
  · rw [dT g,cT];exact h g
  · rw [dF g,cF];exact ⟨_,rfl,fun h=>by cases h⟩
theorem Jq {s:aL} {x:aS}:∃ b,gH s x=some b∧(b=true→Dv s x):=by
  unfold gH
  refine bC fun h1=>bC fun h2=>bC fun h3=>bC fun h4=>bC fun h5=>bC fun h6=>bC fun h7=>bC fun h8=>bC fun h9=>bC fun h10=>bC fun h11=>?_
  by_cases k:x.Kind=3
  · rw [qF k,cF]
    exact ⟨_,rfl,fun h=>⟨h1,h2,h3,h4,h5,h6,h7,h8,h9,h10,h11,fun _=>of_decide_eq_true h⟩⟩
  · rw [qT k,cT]
    exact ⟨_,rfl,fun h=>⟨h1,h2,h3,h4,h5,h6,h7,h8,h9,h10,h11,fun e=>absurd e k⟩⟩
theorem IW {s:aL} {x:aS} (h:Dv s x):qG s x=some true:=by
  obtain ⟨h1,h2,h3,h4,h5,h6,h7,h8,h9,h10,h11,h12⟩:=h
  unfold qG
  by_cases k:x.Kind=3
  · have:=h12 k
    rw [eT k,cT,bS,dT h1,cT,dT h2,cT,dT h3,cT,dT h4,cT,dT h5,cT,dT h6,cT,dT h7,cT,dT h8,cT,dT h9,cT,dT (by omega),cT,dT h11]
  · rw [eF k,cF,bS,dT h1,cT,dT h2,cT,dT h3,cT,dT h4,cT,dT h5,cT,dT h6,cT,dT h7,cT,dT h8,cT,dT h9,cT,dT (by omega),cT,dT h11]
theorem DW {p:Nat} {l:List Nat}:∃ b,jo p l=some b∧(b=true→Lt p l):=by
  unfold jo
  rw [Nat.sub_zero]
  obtain ⟨o,e,ho⟩:=ef (body:=fun k1 (st:Unit)=>jK p l k1) (fun k _=>∀ i,i < k→l.getD i 0 < p) (fun r=>r=false) (rem:=l.length) (k:=0) (s:=()) (fun i hi=>by omega) (fun k _ _ hk h=>by
    unfold jK
    rw [ix 0 (by omega),bS]
    by_cases g:l.getD k 0 < p
    · rw [dF (by omega),cF]
      refine ⟨_,rfl,fun i hi=>?_⟩
      by_cases e:i=k
      · subst e;exact g
      · exact h i (by omega)
    · rw [dT (by omega),cT];exact ⟨_,rfl,rfl⟩)
  rw [e,bS]
  cases o with
  | fin r=>rw [oF];exact ⟨_,rfl,fun h=>by rw [ho] at h;cases h⟩
  | go _=>rw [oG];exact ⟨_,rfl,fun _ i hi=>ho i (by omega)⟩
theorem Hb {w:ab}:∃ b,dc w=some b∧(b=true→∃ n t,JQ w.S n t∧w.af.length≤t∧(∀ x ∈ w.af,1≤x∧x≤n)∧(∀ i,0 < i→i < w.af.length→w.af.getD (i - 1) 0 < w.af.getD i 0)∧w.ax.length=n∧(∀ i,i < w.aa.length→Dv w.S (w.aa.getD i default))∧∀ i,i < w.ax.length→Lt w.S.P (w.ax.getD i [])):=by
  unfold dc
  obtain ⟨b,e,hb⟩:=yK (s:=w.S)
  rw [e,bS]
  cases b with
  | false=>rw [nF,cT,bS,cT];exact ⟨_,rfl,fun h=>by cases h⟩
  | true =>
    rw [nT,cF]
    obtain ⟨b,e,hb⟩:=Ha (s:=w.S) (l:=w.af)
    rw [e,bS]
    cases b with
    | false=>rw [nF,cT,bS,cT];exact ⟨_,rfl,fun h=>by cases h⟩
    | true =>
      obtain ⟨n,t,par,c1,c2,c3⟩:=hb rfl
      rw [nT,cF,bS]
      by_cases g:w.ax.length=n
      · rw [qF (by rw [g,par.N]),cF,Nat.sub_zero,Nat.sub_zero]
        obtain ⟨o,e,ho⟩:=ef (body:=fun k1 (st:Unit)=>fS w k1) (fun k _=>∀ i,i < k→Dv w.S (w.aa.getD i default)) (fun r=>r=false) (rem:=w.aa.length) (k:=0) (s:=()) (fun i hi=>by omega) (fun k _ _ hk h=>by
          unfold fS
          rw [ix default (by omega),bS]
          obtain ⟨b,e,hb⟩:=Jq (s:=w.S) (x:=w.aa.getD k default)
          rw [e,bS]
          cases b with
          | false=>rw [nF,cT];exact ⟨_,rfl,rfl⟩
          | true =>
            rw [nT,cF]
            refine ⟨_,rfl,fun i hi=>?_⟩
            by_cases e:i=k
            · subst e;exact hb rfl
            · exact h i (by omega))
        rw [e,bS]
        cases o with
        | fin r=>rw [oF];exact ⟨_,rfl,fun h=>by rw [ho] at h;cases h⟩
        | go _ =>
          rw [oG]
          obtain ⟨o,e,hq⟩:=ef (body:=fun k1 (st:Unit)=>fT w k1) (fun k _=>∀ i,i < k→Lt w.S.P (w.ax.getD i [])) (fun r=>r=false) (rem:=w.ax.length) (k:=0) (s:=()) (fun i hi=>by omega) (fun k _ _ hk h=>by
            unfold fT
            rw [ix [] (by omega),bS]
            obtain ⟨b,e,hb⟩:=DW (p:=w.S.P) (l:=w.ax.getD k [])
            rw [e,bS]
            cases b with
            | false=>rw [nF,cT];exact ⟨_,rfl,rfl⟩
            | true =>
              rw [nT,cF]
              refine ⟨_,rfl,fun i hi=>?_⟩
              by_cases e:i=k
              · subst e;exact hb rfl
              · exact h i (by omega))
          rw [e,bS]
          cases o with
          | fin r=>rw [oF];exact ⟨_,rfl,fun h=>by rw [hq] at h;cases h⟩
          | go _=>rw [oG];exact ⟨_,rfl,fun _=>⟨n,t,par,c1,c2,c3,g,fun i hi=>ho i (by omega),fun i hi=>hq i (by omega)⟩⟩
      · rw [qT (by rw [par.N];omega),cT];exact ⟨_,rfl,fun h=>by cases h⟩
/-- a fair scenario -/
theorem Fa {w:ab} {lies words:Int} (hK:∀ x ∈ w.aa,x.K < 18446744073709551616) (hl:lies≤40) (hw:words≤1000):∃ b,jV w lies words=some b∧(b=true→∃ n t,Va w n t∧dc w=some true):=by
  unfold jV
  by_cases g1:((w.aa.length:Nat):Int) > lies
  · rw [dT g1,cT,bS,cT];exact ⟨_,rfl,fun h=>by cases h⟩
  · rw [dF g1,cF]
    by_cases g2:((w.ax.length:Nat):Int) > 13
    · rw [dT g2,cT,bS,cT];exact ⟨_,rfl,fun h=>by cases h⟩
    · rw [dF g2,cF]
      by_cases g3:((w.af.length:Nat):Int) > 13
      · rw [dT g3,bS,cT];exact ⟨_,rfl,fun h=>by cases h⟩
      · rw [dF g3,bS,cF,Nat.sub_zero]
        obtain ⟨o,e,ho⟩:=ef (body:=fun k1 (st:Unit)=>ki w words k1) (fun k _=>∀ i,i < k→(((w.ax.getD i []).length:Nat):Int)≤words) (fun r=>r=false) (rem:=w.ax.length) (k:=0) (s:=()) (fun i hi=>by omega) (fun k _ _ hk h=>by
          unfold ki
          rw [ix [] (by omega),bS]
          by_cases g:(((w.ax.getD k []).length:Nat):Int) > words
          · rw [dT g,cT];exact ⟨_,rfl,rfl⟩
          · rw [dF g,cF]
            refine ⟨_,rfl,fun i hi=>?_⟩
            by_cases e:i=k
            · subst e;omega
            · exact h i (by omega))
        rw [e,bS]
        cases o with
        | fin r=>rw [oF];exact ⟨_,rfl,fun h=>by rw [ho] at h;cases h⟩
        | go _ =>
          rw [oG]
          obtain ⟨b,eb,hb⟩:=Hb (w:=w)
          rw [eb,bS]
          refine ⟨_,rfl,fun hbt=>?_⟩
          subst hbt
          obtain ⟨n,t,par,c1,c2,c3,c4,c5,c6⟩:=hb rfl
          have hd:∀ x ∈ w.aa,Dv w.S x:=fun x hx=>by
            obtain ⟨i,hi,rfl⟩:=List.getElem_of_mem hx
            have:=c5 i hi
            rw [List.getD_eq_getElem?_getD,List.getElem?_eq_getElem hi] at this
            exact this
          refine ⟨n,t,{ sup:=par.sup,N:=par.N,T:=par.T,n4:=par.n4,n13:=par.n13,t1:=par.t1,t3:=par.t3,cl:=c1,cr:=c2,dl:=by omega,dv:=fun x hx=>?_,ord:=c3,tl:=c4,tb:=fun i hi=>c6 i (by omega),ts:=fun i hi=>by have:=ho i (by omega);omega,full:=fun x hx=>?_ },rfl⟩
          · obtain ⟨d1,d2,d3,d4,d5,d6,d7,d8,d9,d10,d11,d12⟩:=hd x hx
            rw [par.N] at d5 d11
            exact ⟨d4,d5,d2,d3,d10,d11,d12,hK x hx⟩
          · obtain ⟨d1,d2,d3,d4,d5,d6,d7,d8,d9,d10,d11,d12⟩:=hd x hx
            rw [par.N] at d7
            exact ⟨d1,d6,d7,d8,d9⟩
theorem Va.par {w:ab} {n t:Nat} (v:Va w n t):JQ w.S n t:=⟨v.sup,v.N,v.T,v.n4,v.n13,v.t1,v.t3⟩
end Pu

/- Plain laws of the reference's small functions, and of opening shares. -/
set_option linter.unusedVariables false
namespace Pu
open Gw Gl Sp Lean.Grind
theorem B1 {p a b:Nat} (hp:fM p) (ha:a < p) (hb:b < 18446744073709551616):m3 p a b=some (a*b % p):=by
  have hl:=hp.lt
  unfold m3
  obtain ⟨r,e,hr⟩:=iR (step:=fun (st:Nat × Nat × Nat)=>iT p st.1 st.2.1 st.2.2) (fun st=>st.1 < p∧st.2.1 < 18446744073709551616∧st.2.2 < p∧(st.2.2+st.1*st.2.1) % p=a*b % p) (fun r=>r=a*b % p) (fun st=>st.2.1) (fun st ⟨h1,h2,h3,h4⟩=>by
    obtain ⟨x,m,o⟩:=st
    replace h1:x < p:=h1
    replace h2:m < 18446744073709551616:=h2
    replace h3:o < p:=h3
    replace h4:(o+x*m) % p=a*b % p:=h4
    show ∃ q,iT p x m o=some q∧_
    unfold iT
    by_cases c:m=0
    · subst c
      rw [dF (by omega),cF]
      refine ⟨_,rfl,?_⟩
      show o=_
      rw [← h4,Nat.mul_zero,Nat.add_zero,Nat.mod_eq_of_lt h3]
    · have r2:∀ y,wh y 2=some (y % 2):=fun y=>by unfold wh;rw [if_neg (by decide)]
      have rp:∀ y,wh y p=some (y % p):=fun y=>by unfold wh;rw [if_neg (by omega)]
      have d2:E4 m 2=some (m / 2):=by unfold E4;rw [if_neg (by decide),Nat.mod_eq_of_lt (by omega)]
      have a1:ng o x=o+x:=Nat.mod_eq_of_lt (by omega)
      have a2:ng x x=x+x:=Nat.mod_eq_of_lt (by omega)
      have hx:(x+x)*(m / 2)=x*(2*(m / 2)):=by rw [← Nat.two_mul,Nat.mul_assoc,Nat.mul_left_comm,Nat.mul_left_comm]
      rw [dT (by omega),cT,r2,bS]
      by_cases g:m % 2=1
      · rw [eT (by omega),cT,a1,bS,rp,bS,a2,bS,rp,bS,d2,bS]
        refine ⟨_,rfl,⟨Nat.mod_lt _ hp.pos,by show m / 2 < _;omega,Nat.mod_lt _ hp.pos,?_⟩,by show m / 2 < m;omega⟩
        show ((o+x) % p+(x+x) % p*(m / 2)) % p=_
        rw [← h4,Nat.add_mod,Nat.mul_mod,Nat.mod_mod,Nat.mod_mod,← Nat.mul_mod,← Nat.add_mod,hx]
        congr 1
        have:m=1+2*(m / 2):=by omega
        conv=>rhs;rw [this,Nat.mul_add,Nat.mul_one]
        omega
      · rw [eF (by omega),cF,a2,bS,rp,bS,d2,bS]
        refine ⟨_,rfl,⟨Nat.mod_lt _ hp.pos,by show m / 2 < _;omega,h3,?_⟩,by show m / 2 < m;omega⟩
        show (o+(x+x) % p*(m / 2)) % p=_
        rw [← h4,Nat.add_mod,Nat.mul_mod,Nat.mod_mod,← Nat.mul_mod,← Nat.add_mod,hx]
        congr 3
        omega)
    (s:=(a,b,0)) ⟨ha,hb,hp.pos,by simp⟩ hb
  rw [e,bS,hr]
theorem B0 {p a b:Nat} (hp:fM p) (h:a+b < 18446744073709551616):m0 p a b=some ((a+b) % p):=by
  have hl:=hp.lt
  unfold m0
  have a1:ng a b=a+b:=Nat.mod_eq_of_lt h
  rw [a1,bS]
  unfold wh
  rw [if_neg (by omega),bS]
section
variable {p:Nat} [NeZero p]
end
theorem uh {w:ab} {i:Int}:fo w i=some (decide (i ∉ w.af)):=by
  unfold fo
  rw [Nat.sub_zero]
  obtain ⟨o,e,ho⟩:=ef (body:=fun k1 (st:Unit)=>jq w i k1) (fun k _=>∀ j,j < k→w.af.getD j 0≠i) (fun r=>r=false∧i ∈ w.af) (rem:=w.af.length) (k:=0) (s:=()) (fun i hi=>by omega) (fun k _ _ hk h=>by
    have hkl:k < w.af.length:=by omega
    unfold jq
    rw [ix 0 hkl,bS]
    by_cases g:w.af.getD k 0=i
    · rw [eT g,cT]
      refine ⟨_,rfl,rfl,?_⟩
      rw [← g,List.getD_eq_getElem?_getD,List.getElem?_eq_getElem hkl];exact List.getElem_mem hkl
    · rw [eF g,cF]
      refine ⟨_,rfl,fun j hj=>?_⟩
      by_cases e:j=k
      · subst e;exact g
      · exact h j (by omega))
  rw [e,bS]
  cases o with
  | fin r=>rw [oF,ho.1,dF (fun h=>h ho.2)]
  | go _ =>
    rw [oG,dT]
    intro hv
    obtain ⟨j,hj,rfl⟩:=List.getElem_of_mem hv
    apply ho j (by omega)
    rw [List.getD_eq_getElem?_getD,List.getElem?_eq_getElem hj];rfl
theorem u6 {l1:List Int}:∀ {l2:List Int},l1.Nodup→(∀ x ∈ l1,x ∈ l2)→l1.length≤l2.length:=by
  induction l1 with
  | nil=>intro l2 _ _;simp
  | cons x t ih =>
    intro l2 hn hs
    have hx:x ∈ l2:=hs x (by simp)
    have hl2:=(List.perm_cons_erase hx).length_eq
    rw [List.nodup_cons] at hn
    have:=ih (l2:=l2.erase x) hn.2 (fun y hy=>(List.mem_erase_of_ne (by intro e;subst e;exact hn.1 hy)).2 (hs y (by simp [hy])))
    simp at hl2 ⊢;omega
end Pu
